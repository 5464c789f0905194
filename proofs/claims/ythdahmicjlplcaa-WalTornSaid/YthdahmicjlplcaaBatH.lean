/- Contract of wal.Batches. Conditions: the bytes read. -/
import Derived.Test.YthdahmicjlplcaaBatE
import Derived.Test.YthdahmicjlplcaaFrmC
namespace Go.Proofs.Ythdahmicjlplcaa
set_option linter.unusedSimpArgs false
set_option linter.unusedVariables false
open Go.RowKit Go.Shelf
attribute [local go_sem] Oper.semAt_some

theorem OwnLB.stay {E : Sl → List Ent → Prop} {w w' : World} {base : Nat} {v : Value} {xs : List Bat} (h : OwnLB E w base v xs) (hb : ∀ g, v.ownBlock = some g → w'.heap[g]? = w.heap[g]?) : OwnLB E w' base v xs := by
  obtain ⟨hs, hl, ho, hr⟩ := h
  refine ⟨hs, hl, ⟨ho.1, ?_⟩, hr⟩
  rcases ho.2 with hn | ⟨g, cap, cur, rfl, hg, hh, rest⟩
  · exact .inl hn
  · exact .inr ⟨g, cap, cur, rfl, hg, (hb g rfl).trans hh, rest⟩

def zB (w : World) (T : Nat → Prop) (k : Nat) : Prop := w.heap.size + 6 ≤ k ∧ ¬ T k
def RowZB (w : World) (T : Nat → Prop) (Wc : World) (v : Value) (l : List Bat) : Prop := OwnLB (fun h es => OwnFZ (zB w T) Wc (w.heap.size + 4) (slV h) es ∧ es.length ≤ 1000000) Wc (w.heap.size + 4) v l ∧ ∀ g, v.ownBlock = some g → zB w T g
theorem RowZB.kept {w : World} {T T' : Nat → Prop} {Wc W' : World} {v : Value} {l : List Bat} (h : RowZB w T Wc v l) (k : Kept (zB w T) Wc W') (hT : ∀ j, j < Wc.heap.size → T' j → T j) : RowZB w T' W' v l := by
  have hlt : ∀ g, v.ownBlock = some g → g < Wc.heap.size := fun g e => by
    obtain ⟨_, cs, fr, hh⟩ := OwnLB.row h.1 g e
    exact (Array.getElem?_eq_some_iff.1 hh).1
  refine ⟨OwnLB.stay (h.1.imp fun a b e => ⟨e.1.move fun j cs t fr hz hj _ => ?_, e.2⟩) (fun g e => k.block g (hlt g e) (h.2 g e)), fun g e => ⟨(h.2 g e).1, fun h' => (h.2 g e).2 (hT g (hlt g e) h')⟩⟩
  have hjl := (Array.getElem?_eq_some_iff.1 hj).1
  exact ⟨⟨hz.1, fun h' => hz.2 (hT j hjl h')⟩, (k.block j hjl hz).trans hj⟩
theorem RowZB.own {w : World} {T : Nat → Prop} {Wc : World} {v : Value} {l : List Bat} (h : RowZB w T Wc v l) : OwnLF Wc (w.heap.size + 4) v l := h.1.imp fun a b e => ⟨e.1.own, e.2⟩

structure WBI (w : World) (b : Bs) (pre : List (Nat × Bs)) (l : List Bat) (v : Value) (T : Nat → Prop) (Wc : World) : Prop where
  c5 : Wc.cell? ⟨w.heap.size, 0, none⟩ = some v
  f5 : Wc.frozen? ⟨w.heap.size, 0, none⟩ = false
  c6 : Wc.cell? ⟨w.heap.size + 1, 0, none⟩ = some (.int .i64 (endF (pre.map Prod.snd) : Nat))
  f6 : Wc.frozen? ⟨w.heap.size + 1, 0, none⟩ = false
  c7 : Wc.cell? ⟨w.heap.size + 2, 0, none⟩ = some (.bool true)
  f7 : Wc.frozen? ⟨w.heap.size + 2, 0, none⟩ = false
  gw : GW (frs b) l
  len : l.length = pre.length
  row : RowZB w T Wc v l
  ext : Ext w Wc
  size : w.heap.size + 4 ≤ Wc.heap.size
  t : ∀ k, T k → w.heap.size + 4 ≤ k
theorem WBI.kept {w : World} {b : Bs} {pre : List (Nat × Bs)} {l : List Bat} {v : Value} {T T' : Nat → Prop} {Wc W' : World} (h : WBI w b pre l v T Wc) (k : Kept (fun j => j < w.heap.size + 4 ∨ zB w T j) Wc W') (hT : ∀ j, j < Wc.heap.size → T' j → T j) (ht : ∀ j, T' j → w.heap.size + 4 ≤ j) : WBI w b pre l v T' W' := by
  have hz := h.size
  refine ⟨k.cell h.c5 (by simp), ?_, k.cell h.c6 (by simp), ?_, k.cell h.c7 (by simp), ?_, h.gw, h.len, h.row.kept (k.mono fun _ h => .inr h) hT, k.ext_of h.ext (fun j hj => .inl (by omega)), Nat.le_trans hz k.size, ht⟩
  · rw [k.frozen (by simp; omega) (by simp)]; exact h.f5
  · rw [k.frozen (by simp; omega) (by simp)]; exact h.f6
  · rw [k.frozen (by simp; omega) (by simp)]; exact h.f7
structure WBX (w : World) (b : Bs) (l : List Bat) (v : Value) (T : Nat → Prop) (Wc : World) : Prop where
  c5 : Wc.cell? ⟨w.heap.size, 0, none⟩ = some v
  c6 : Wc.cell? ⟨w.heap.size + 1, 0, none⟩ = some (.int .i64 (endF ((frs b).take l.length) : Nat))
  c7 : Wc.cell? ⟨w.heap.size + 2, 0, none⟩ = some (.bool false)
  gw : goW none (frs b) = (l, false)
  row : RowZB w T Wc v l
  ext : Ext w Wc
  size : w.heap.size + 4 ≤ Wc.heap.size
  t : ∀ k, T k → w.heap.size + 4 ≤ k
theorem WBX.kept {w : World} {b : Bs} {l : List Bat} {v : Value} {T T' : Nat → Prop} {Wc W' : World} (h : WBX w b l v T Wc) (k : Kept (fun j => j < w.heap.size + 4 ∨ zB w T j) Wc W') (hT : ∀ j, j < Wc.heap.size → T' j → T j) (ht : ∀ j, T' j → w.heap.size + 4 ≤ j) : WBX w b l v T' W' := by
  have hz := h.size
  exact ⟨k.cell h.c5 (by simp), k.cell h.c6 (by simp), k.cell h.c7 (by simp), h.gw, h.row.kept (k.mono fun _ h => .inr h) hT, k.ext_of h.ext (fun j hj => .inl (by omega)), Nat.le_trans hz k.size, ht⟩
theorem abB {w : World} {T T' : Nat → Prop} {Wc W' : World} (ht0 : ∀ k, T k → w.heap.size + 4 ≤ k) (hz : w.heap.size + 4 ≤ Wc.heap.size) (hk : Kept (fun k => ¬ T k ∧ k ≠ w.heap.size + 4 ∧ k ≠ w.heap.size + 4 + 1) Wc W') (hn : ∀ k, T' k → T k ∨ Wc.heap.size ≤ k) :
    Kept (fun j => j < w.heap.size + 4 ∨ zB w T j) Wc W' ∧ (∀ j, j < Wc.heap.size → T' j → T j) ∧ (∀ j, T' j → w.heap.size + 4 ≤ j) :=
  ⟨hk.mono fun j hj => hj.elim (fun h => ⟨fun h' => by have := ht0 j h'; omega, by omega, by omega⟩) (fun h => ⟨h.2, by have := h.1; omega, by have := h.1; omega⟩), fun j hj h => (hn j h).elim id (fun h => by omega), fun j h => (hn j h).elim (ht0 j) (fun h => by omega)⟩

theorem atsF_get {pre : List (Nat × Bs)} {k j : Nat} {p : Bs} {ps : List Bs} (h : pre ++ [(k, p)] <+: atsF j ps) : ps[pre.length]? = some p := by
  obtain ⟨t, ht⟩ := h
  have := congrArg (List.map Prod.snd) ht
  rw [atsF_snd] at this
  rw [← this, List.append_assoc, List.map_append, List.getElem?_append_right (by simp)]
  simp
theorem Kept.grownB {X : Nat → Prop} {a b : World} {row : Option Nat} (h : a.grownBy b row) (hx : ∀ g, row = some g → ¬ X g) : Kept X a b :=
  ⟨h.os, h.tape, h.output, h.size, fun k hk hX => h.block k hk (fun e => hx k e.symm hX)⟩
theorem OwnFZ.low {Z : Nat → Prop} {w : World} {base base' : Nat} {v : Value} {xs : List Ent} (h : OwnFZ Z w base v xs) (hb : base' ≤ base) : OwnFZ Z w base' v xs := by
  obtain ⟨wz, hs, ho⟩ := h
  exact ⟨wz, hs, ho.low hb⟩
theorem OwnFZ.ext {Z : Nat → Prop} {w w' : World} {base : Nat} {v : Value} {xs : List Ent} (h : OwnFZ Z w base v xs) (e : Ext w w') : OwnFZ Z w' base v xs :=
  h.move fun j cs t fr hz hj _ => ⟨hz, ((Ext.below e).block j (Array.getElem?_eq_some_iff.1 hj).1).trans hj⟩
theorem OwnLB.slice {E : Sl → List Ent → Prop} {w : World} {base : Nat} {v : Value} {xs : List Bat} (h : OwnLB E w base v xs) : ∃ A n c, v = .slice A n c := by
  obtain ⟨hs, hl, ho, hr⟩ := h
  rcases ho.2 with ⟨rfl, h0⟩ | ⟨g, cap, cur, rfl, _⟩
  · exact ⟨_, _, _, rfl⟩
  · exact ⟨_, _, _, rfl⟩
/-- The row as it stands in a world beyond. -/
theorem RowZB.at_ {w : World} {T : Nat → Prop} {Wc W' : World} {v : Value} {l : List Bat} (h : RowZB w T Wc v l) (e : Ext Wc W') : OwnLB (fun h es => OwnFZ (zB w T) W' (w.heap.size + 4) (slV h) es ∧ es.length ≤ 1000000) W' (w.heap.size + 4) v l :=
  (h.kept (T' := T) (Kept.of_ext e) (fun _ _ h => h)).1
theorem newZ {w Wc w2 W' : World} {T : Nat → Prop} {v : Value} {es : List Ent} (h : OwnF w2 Wc.heap.size v es) (e : Ext w2 W') (hz : w.heap.size + 6 ≤ Wc.heap.size) (hT : ∀ k, T k → k < Wc.heap.size) : OwnFZ (zB w T) W' (w.heap.size + 4) v es :=
  (OwnFZ.new (h.ext e) fun k h1 _ => ⟨by omega, fun h' => by have := hT k h'; omega⟩).low (by omega)
/-- What a round that takes a batch has done. -/
theorem WBI.next {w : World} {b : Bs} {pre : List (Nat × Bs)} {l : List Bat} {v : Value} {T : Nat → Prop} {W3 wa w10 : World} {v10 : Value} {y : Bat} {k : Nat} {p : Bs} (h : WBI w b pre l v T W3) (hT : ∀ j, T j → j < W3.heap.size) (hz6 : w.heap.size + 6 ≤ W3.heap.size) (hxa : Ext W3 wa)
    (ho : OwnLB (fun h es => OwnFZ (zB w T) wa (w.heap.size + 4) (slV h) es ∧ es.length ≤ 1000000) w10 (w.heap.size + 4) v10 (l ++ [y])) (hkx : Kx 24 wa w10) (hg : wa.grownBy w10 v.ownBlock)
    (hv : ∀ j, v10.ownBlock = some j → v.ownBlock = some j ∨ wa.heap.size ≤ j) (hp : (frs b)[l.length]? = some p) (hr : readW p = some y) (hb : behW l y = true) (z : Int) (hz : z = (endF ((pre ++ [(k, p)]).map Prod.snd) : Nat)) :
    WBI w b (pre ++ [(k, p)]) (l ++ [y]) v10 T ((w10.setCell ⟨w.heap.size, 0, none⟩ v10).setCell ⟨w.heap.size + 1, 0, none⟩ (.int .i64 z)) ∧
      Kept (fun j => T j ∨ (j < w.heap.size + 4 + 2 ∧ ¬ (j = w.heap.size ∨ j = w.heap.size + 1 ∨ j = w.heap.size + 2))) W3 ((w10.setCell ⟨w.heap.size, 0, none⟩ v10).setCell ⟨w.heap.size + 1, 0, none⟩ (.int .i64 z)) := by
  obtain ⟨i1, i2, i3, i4, i5, i6, i7, i8, i9, i10, i11, i12⟩ := id h
  have k1 : Kept (fun j => ¬ v.ownBlock = some j) W3 w10 := (Kept.of_ext hxa).trans (Kept.grownB hg fun g e h' => h' e)
  have hv4 : ∀ j, j < w.heap.size + 6 ∨ T j → ¬ v.ownBlock = some j := fun j hj e => by
    have := i9.2 j e
    rcases hj with hj | hj
    · have := this.1; omega
    · exact this.2 hj
  have k2 : Kept (fun j => j ≠ w.heap.size ∧ j ≠ w.heap.size + 1 ∧ ¬ v.ownBlock = some j) W3 ((w10.setCell ⟨w.heap.size, 0, none⟩ v10).setCell ⟨w.heap.size + 1, 0, none⟩ (.int .i64 z)) :=
    ((k1.mono fun j hj => hj.2.2).setCell (by simp) _).setCell (by simp) _
  have hsz : w10.heap.size ≤ ((w10.setCell ⟨w.heap.size, 0, none⟩ v10).setCell ⟨w.heap.size + 1, 0, none⟩ (.int .i64 z)).heap.size := by simp [World.setCell]
  have hws : W3.heap.size ≤ wa.heap.size := hxa.size
  have f5 := k1.frozen (p := ⟨w.heap.size, 0, none⟩) (by simp; omega) (hv4 _ (.inl (by simp)))
  have f6 := k1.frozen (p := ⟨w.heap.size + 1, 0, none⟩) (by simp; omega) (hv4 _ (.inl (by simp)))
  have c5 := k1.cell i1 (hv4 _ (.inl (by simp)))
  have c6 := k1.cell i3 (hv4 _ (.inl (by simp)))
  have hblk : ∀ j, j ≠ w.heap.size → j ≠ w.heap.size + 1 → ((w10.setCell ⟨w.heap.size, 0, none⟩ v10).setCell ⟨w.heap.size + 1, 0, none⟩ (.int .i64 z)).heap[j]? = w10.heap[j]? := fun j h1 h2 =>
    (Below.heap_setCell _ _ _ _ (fun e => (h2 (by exact e)).elim)).trans (Below.heap_setCell _ _ _ _ (fun e => (h1 (by exact e)).elim))
  have hzv : ∀ g, v10.ownBlock = some g → zB w T g := fun g e => (hv g e).elim (fun h' => i9.2 g h') (fun h' => ⟨by omega, fun ht => by have := hT g ht; omega⟩)
  refine ⟨⟨?_, ?_, ?_, ?_, ?_, ?_, i7.step hp hr hb, by simp [i8], ⟨?_, hzv⟩, k2.ext_of i10 (fun j hj => ⟨by omega, by omega, hv4 j (.inl (by omega))⟩), Nat.le_trans i11 k2.size, i12⟩, ?_⟩
  · rw [World.cell?_setCell_other _ _ _ _ (fun e => by simp at e)]
    exact World.cell?_setCell_same' _ _ _ (by rw [c5]; rfl)
  · rw [World.frozen?_setCell, World.frozen?_setCell, f5]; exact i2
  · rw [hz]
    exact World.cell?_setCell_same' _ _ _ (by rw [World.cell?_setCell_other _ _ _ _ (fun e => by simp at e), c6]; rfl)
  · rw [World.frozen?_setCell, World.frozen?_setCell, f6]; exact i4
  · exact k2.cell i5 ⟨by simp, by simp, hv4 _ (.inl (by simp))⟩
  · rw [k2.frozen (by simp; omega) ⟨by simp, by simp, hv4 _ (.inl (by simp))⟩]; exact i6
  · refine OwnLB.stay (ho.imp fun a es e => ⟨e.1.move fun j cs t fr hzj hj ht => ⟨hzj, ?_⟩, e.2⟩) (fun g e => hblk g (by have := (hzv g e).1; omega) (by have := (hzv g e).1; omega))
    rw [hblk j (by have := hzj.1; omega) (by have := hzj.1; omega)]
    exact hkx t (by rcases ht with rfl | rfl <;> decide) j cs fr hj
  · refine k2.mono fun j hj => ?_
    rcases hj with hj | hj
    · have := i12 j hj
      exact ⟨by omega, by omega, hv4 j (.inr hj)⟩
    · exact ⟨fun e => hj.2 (.inl e), fun e => hj.2 (.inr (.inl e)), hv4 j (.inl hj.1)⟩
theorem WBI.grown {w : World} {b : Bs} {pre : List (Nat × Bs)} {l : List Bat} {v : Value} {T : Nat → Prop} {W3 wa w10 : World} (h : WBI w b pre l v T W3) (hz6 : w.heap.size + 6 ≤ W3.heap.size) (hxa : Ext W3 wa) (hg : wa.grownBy w10 v.ownBlock) :
    w10.cell? ⟨w.heap.size, 0, none⟩ = some v ∧ w10.frozen? ⟨w.heap.size, 0, none⟩ = false ∧ w10.cell? ⟨w.heap.size + 1, 0, none⟩ = some (.int .i64 (endF (pre.map Prod.snd) : Nat)) ∧ w10.frozen? ⟨w.heap.size + 1, 0, none⟩ = false := by
  obtain ⟨i1, i2, i3, i4, i5, i6, i7, i8, i9, i10, i11, i12⟩ := id h
  have k1 : Kept (fun j => ¬ v.ownBlock = some j) W3 w10 := (Kept.of_ext hxa).trans (Kept.grownB hg fun g e h' => h' e)
  have hv4 : ∀ j, j < w.heap.size + 6 → ¬ v.ownBlock = some j := fun j hj e => by have := (i9.2 j e).1; omega
  exact ⟨k1.cell i1 (hv4 _ (by simp)), (k1.frozen (p := ⟨w.heap.size, 0, none⟩) (by simp; omega) (hv4 _ (by simp))).trans i2, k1.cell i3 (hv4 _ (by simp)), (k1.frozen (p := ⟨w.heap.size + 1, 0, none⟩) (by simp; omega) (hv4 _ (by simp))).trans i4⟩
/-- What a round that ends the loop has done. -/
theorem WBI.halt {w : World} {b : Bs} {pre : List (Nat × Bs)} {l : List Bat} {v : Value} {T : Nat → Prop} {W3 wa : World} {p : Bs} (h : WBI w b pre l v T W3) (hxa : Ext W3 wa) (hp : (frs b)[l.length]? = some p) (hb : readW p = none ∨ ∃ x, readW p = some x ∧ behW l x = false)
    (hsz : endF (pre.map Prod.snd) = endF ((frs b).take l.length)) :
    WBX w b l v T (wa.setCell ⟨w.heap.size + 2, 0, none⟩ (.bool false)) ∧ Kept (fun j => T j ∨ j = w.heap.size + 4 ∨ j = w.heap.size + 4 + 1) W3 (wa.setCell ⟨w.heap.size + 2, 0, none⟩ (.bool false)) := by
  obtain ⟨i1, i2, i3, i4, i5, i6, i7, i8, i9, i10, i11, i12⟩ := id h
  have k2 : Kept (fun j => j ≠ w.heap.size + 2) W3 (wa.setCell ⟨w.heap.size + 2, 0, none⟩ (.bool false)) := (Kept.of_ext hxa).setCell (by simp) _
  refine ⟨⟨k2.cell i1 (by simp), by rw [← hsz]; exact k2.cell i3 (by simp), World.cell?_setCell_same' _ _ _ (by rw [hxa.keeps _ _ _ i5]; rfl), i7.stop hp hb, i9.kept (T' := T) (k2.mono fun j hj => ?_) (fun _ _ h => h), k2.ext_of i10 (fun j hj => by omega), Nat.le_trans i11 k2.size, i12⟩, k2.mono fun j hj => ?_⟩
  · have := hj.1; omega
  · rcases hj with hj | hj | hj
    · have := i12 j hj; omega
    · omega
    · omega

theorem leaves_tmM {F : Fence} {n : Nat} {P : Program} {fn : Func} {R : Ending → World → Prop} {tm tm' : Array Value} (h : results fn tm = results fn tm') : ∀ (ds : List Deferred) (u : FrameMode) (w : World), LeavesInM F n P fn tm R ds u w → LeavesInM F n P fn tm' R ds u w := by
  intro ds
  induction ds with
  | nil =>
    intro u w hl
    cases u with
    | run => exact hl
    | returning => obtain ⟨v, h1, h2⟩ := hl; exact ⟨v, h ▸ h1, h2⟩
    | panicking chain => exact hl
  | cons d ds ih =>
    intro u w hl
    obtain ⟨hr, hl⟩ := hl
    refine ⟨hr, ?_⟩
    rcases hl with ⟨r, w', h1, h2, h3⟩ | ⟨hn, fv, cap, f, args, h1, h2, h3, h4⟩
    · exact .inl ⟨r, w', h1, h2, ih _ _ h3⟩
    · refine .inr ⟨hn, fv, cap, f, args, h1, h2, h3, h4.mono ?_⟩
      intro e u' w' hp
      cases e with
      | returned v => exact ih _ _ hp
      | panicked chain => exact ih _ _ hp
      | outgrown => exact hp
theorem Kx.putDef {T : TypeId} {w : World} {r : Nat} {o : Option (List Deferred)} (h : w.heap[r]? = some (.deferred o)) (o' : Obj) : Kx T w (w.putObj r o') := fun t ht k cs fr hk =>
  (World.putObj_heap_other (fun e => by rw [e, h] at hk; cases hk)).trans hk
/-- A panic's way out of Batches does not look at other slots. -/
theorem batchesQ {R : Ending → World → Prop} {c : List PanicEntry} {a : Act} {d : Tmp} {v : Value} {w : World} (h2 : d ≠ 2) (h3 : d ≠ 3) (h4 : d ≠ 4) (h : bodyPostM Fence.wide 3 Try.prog Try.f19 R (.panic c) (a.put (some d) v) w) : bodyPostM Fence.wide 3 Try.prog Try.f19 R (.panic c) a w := by
  refine leaves_tmM (tm := (a.put (some d) v).tmps) ?_ a.defers (.panicking c) w h
  simp [results, Try.f19, Act.put, Array.getElem?_setIfInBounds, h2, h3, h4]

set_option maxRecDepth 100000 in
set_option maxHeartbeats 8000000 in
theorem wbatches_any (A : Option Addr) (n c : Nat) (b : Bs) (w : World) (hx : Rd w A n b) (hnc : n ≤ c) (hn : n ≤ 1000000) :
    Calls Try.prog 19 #[.slice A n c] w fun e w' => ∃ v, e = .returned (.tuple #[v, .int .i64 (sizeW b : Nat), .bool (okW b)]) ∧ OwnLF w' w.heap.size v (batW b) ∧ Ext w w' := by
  have hle := frs_le b
  have hxl := hx.1
  have hnb : n ≤ B40 := by unfold B40; omega
  refine (callsIn_wide (n := 3)).1 ?_
  refine callsIn_of_wp_marks Try.func19 rfl trivial ?_ rfl
  simp only [Try.ntmps19, List.size_toArray, List.length_cons, List.length_nil, Nat.reduceAdd, Nat.reduceSub, Array.replicate_succ, Array.replicate_zero, List.push_toArray, List.append_toArray, List.nil_append, List.cons_append]
  gi_wp2
  refine wpIn_scope_wide ?_
  gi_wp2
  refine wpIn_label ?_
  gi_wp2
  refine ⟨trivial, ?_⟩
  refine (callsIn_wide.2 (frall_any _ _ _ _)).mono ?_
  rintro e w' ⟨rfl, rfl⟩
  gi_wp2
  obtain ⟨W1, hW1⟩ : ∃ W1, W1 = w.alloc (.cells #[.slice none 0 0] 26) := ⟨_, rfl⟩
  obtain ⟨W2, hW2⟩ : ∃ W2, W2 = W1.alloc (.cells #[.int .i64 0] 3) := ⟨_, rfl⟩
  obtain ⟨W3, hW3⟩ : ∃ W3, W3 = W2.alloc (.cells #[.bool true] 4) := ⟨_, rfl⟩
  obtain ⟨W5, hW5⟩ : ∃ W5, W5 = W3.alloc (.cells #[.slice A n c] 29) := ⟨_, rfl⟩
  have z1 : W1.heap.size = w.heap.size + 1 := by rw [hW1, World.size_alloc]
  have z2 : W2.heap.size = w.heap.size + 2 := by rw [hW2, World.size_alloc, z1]
  have z3 : W3.heap.size = w.heap.size + 3 := by rw [hW3, World.size_alloc, z2]
  have hz5 : W5.heap.size = w.heap.size + 4 := by rw [hW5, World.size_alloc, z3]
  have x3 : Ext W3 W5 := by rw [hW5]; exact Ext.alloc (Ext.rfl_ _) _
  have x2 : Ext W2 W5 := Ext.trans (by rw [hW3]; exact Ext.alloc (Ext.rfl_ _) _) x3
  have x1 : Ext W1 W5 := Ext.trans (by rw [hW2]; exact Ext.alloc (Ext.rfl_ _) _) x2
  have x0 : Ext w W5 := Ext.trans (by rw [hW1]; exact Ext.alloc (Ext.rfl_ _) _) x1
  have q0 := cnew w (.slice none 0 0) 26
  rw [← hW1] at q0
  have q1 := cnew W1 (.int .i64 0) 3
  rw [← hW2, z1] at q1
  have q2 := cnew W2 (.bool true) 4
  rw [← hW3, z2] at q2
  have q3 := cnew W3 (.slice A n c) 29
  rw [← hW5, z3] at q3
  rw [← hW1, ← hW2, ← hW3, ← hW5]
  refine range_law (gf := 64) (lb := #[.pointer (some ⟨w.heap.size + 3, 0, none⟩)]) rfl (enters_of Try.func64 (by kernel_rfl) rfl)
    (frall1_seq A n c (w.heap.size + 3) b (fun k => k = w.heap.size ∨ k = w.heap.size + 1 ∨ k = w.heap.size + 2) w W5 hx hnc hnb x0 ?_ ?_ ?_) ?_ ?_ ?_
    (fun pre T W => ∃ l v, WBI w b pre l v T W) (fun code _ T W => code = .exit 0 ∧ ∃ l v, WBX w b l v T W) ?_ ?_ ?_ ?_ ?_ ?_
  · rintro k (rfl | rfl | rfl) <;> omega
  · exact q3.1
  · omega
  · exact Ext.rfl_ _
  · rintro x vs W ⟨A, n, c, rfl, _⟩; rfl
  · rintro k (rfl | rfl | rfl) <;> omega
  · rw [hz5]
    rintro pre T T' Wc W' ⟨l, v, h⟩ hk hs hn'
    obtain ⟨h1, h2, h3⟩ := abB h.t h.size hk hn'
    exact ⟨l, v, h.kept h1 h2 h3⟩
  · intro code; rw [hz5]
    rintro pre T T' Wc W' ⟨rfl, l, v, h⟩ hk hs hn'
    obtain ⟨h1, h2, h3⟩ := abB h.t h.size hk hn'
    exact ⟨rfl, l, v, h.kept h1 h2 h3⟩
  · refine ⟨[], .slice none 0 0, x1.keeps _ _ _ q0.1, ?_, x2.keeps _ _ _ q1.1, ?_, x3.keeps _ _ _ q2.1, ?_, GW.start _, rfl, ⟨OwnLB.nil _ _ _, fun g e => by cases e⟩, x0, by omega, fun _ h => h.elim⟩
    · rw [(bcell x1).2 _ _ (by omega)]; exact q0.2
    · rw [(bcell x2).2 _ _ (by omega)]; exact q1.2
    · rw [(bcell x3).2 _ _ (by omega)]; exact q2.2
  · rintro l2 m pre ⟨k, p⟩ vs T Wc rfl ⟨l, v, hI⟩ hpre ⟨B, nb, cb, rfl, hrd, hcb⟩ hT hz hlo
    rw [hz5] at hT hz hlo
    obtain ⟨hk, hp⟩ := atsF_at hpre
    have hpm := frs_may hp
    have hget := atsF_get hpre
    rw [← hI.len] at hget
    have htk : pre.map Prod.snd = (frs b).take l.length := by
      obtain ⟨t, ht⟩ := hpre
      have := congrArg (List.map Prod.snd) ht
      rw [atsF_snd] at this
      rw [← this, hI.len, List.append_assoc, List.map_append, List.take_left' (by simp)]
    have hend : endF ((pre ++ [(k, p)]).map Prod.snd) ≤ endF (frs b) := by
      obtain ⟨t, ht⟩ := hpre
      have := congrArg (fun l => endF (l.map Prod.snd)) ht
      simp only [atsF_snd] at this
      rw [← this, List.map_append (l₂ := t), endF_app]
      omega
    have hlen : l.length + 1 ≤ n := by
      have h1 := hpre.length_le
      rw [atsF_len, List.length_append, List.length_singleton, ← hI.len] at h1
      have : ∀ ps : List Bs, ps.length ≤ endF ps := by
        intro ps
        induction ps with
        | nil => exact Nat.le_refl _
        | cons a ps ih => simp [endF]; omega
      have := this (frs b)
      omega
    have hpl : p.length = nb := hrd.1
    have hmay : mayF nb = true := by unfold mayF; simp; omega
    have hend2 : endF ((pre ++ [(k, p)]).map Prod.snd) = k + (8 + nb) := by rw [List.map_append, endF_app]; simp only [List.map_cons, List.map_nil, endF]; omega
    rw [hend2] at hend
    have hnb2 : nb ≤ 1048576 := by omega
    simp only [List.zip_toArray, List.zip_cons_cons, List.zip_nil_right, List.foldl_toArray', List.foldl_cons, List.foldl_nil]
    have hI0 := Lib.hid hI
    have HEND := Lib.hid hend2
    have HMAY := Lib.hid hmay
    have HRD := Lib.hid hrd
    have HLO := Lib.hid hlo
    have HGET := Lib.hid hget
    have HTK := Lib.hid htk
    have HT := Lib.hid hT
    have HZ := Lib.hid hz
    clear hI hpre hrd hk hp hend2 hpl hmay hpm hget htk hlo hT hz
    gi_wp2
    refine ⟨Ext.rfl_ _, fun W3 kp3 => ?_⟩
    (try rw [hz5] at kp3)
    have HR3 := Lib.hid (HRD.out.kept kp3 HLO.out)
    have H3 := Lib.hid (hI0.out.kept (T' := T) (kp3.mono fun k hk => hk.elim (fun h => by omega) (fun h => by have := h.1; omega)) (fun _ _ h => h) hI0.out.t)
    have HZ3 := Lib.hid (Nat.le_trans HZ.out kp3.size)
    have HT3 := Lib.hid (fun k h => Nat.lt_of_lt_of_le (HT.out k h).2 kp3.size : ∀ k, T k → k < W3.heap.size)
    clear hI0 HRD HLO HT HZ kp3
    obtain ⟨i1, i2, i3, i4, i5, i6, -, -, -, -, -, -⟩ := id H3.out
    have hwr2 : IntKind.i64.wrap ((k : Int) + (8 + (nb : Int))) = (k : Int) + (8 + (nb : Int)) := by rw [IntKind.wrap_i64]; omega
    gi_wp2
    refine ⟨trivial, fun h => (by simp [Fence.wide] at h), ?_⟩
    refine (callsIn_wide.2 (wread_any B nb cb p _ HR3.out (by unfold B40; omega))).mono ?_
    rintro e w2 ⟨ix, A2, n2, c2, rfl, hnc2, hy, hw2⟩
    gi_wp2
    obtain ⟨wb, hwb⟩ : ∃ wb, wb = w2.alloc (.cells #[.int .i64 ix, .slice A2 n2 c2] 24) := ⟨_, rfl⟩
    have hb10 := heap_alloc_new w2 (.cells #[.int .i64 ix, .slice A2 n2 c2] 24)
    have hxa : Ext w2 wb := by rw [hwb]; exact Ext.alloc (Ext.rfl_ _) _
    rw [← hwb] at hb10
    (try rw [← hwb])
    obtain ⟨q0, q1, _, _⟩ := box2 hb10 (Ext.rfl_ _)
    have HXB := Lib.hid (show Ext W3 wb from hw2.trans hxa)
    have c5 := HXB.out.keeps _ _ _ i1
    have c6 := HXB.out.keeps _ _ _ i3
    have c7 := HXB.out.keeps _ _ _ i5
    have f5 := ((bcell HXB.out).2 w.heap.size 0 (by have := HZ3.out; omega)).trans i2
    have f6 := ((bcell HXB.out).2 (w.heap.size + 1) 0 (by have := HZ3.out; omega)).trans i4
    have f7 := ((bcell HXB.out).2 (w.heap.size + 2) 0 (by have := HZ3.out; omega)).trans i6
    cases hrd : readW p with
    | none =>
      have HP := Lib.hid hrd
      simp only [Option.isSome_none]
      clear hy hrd hb10 hwb
      refine wpIn_region_rnd (by kernel_rfl) (by kernel_rfl) rfl ?_
      (try (change wpAnyIn _ _ _ _ _ _ _ _ _ (World.drew _)))
      refine wpAnyIn_take (i := 0) (oi := ({ dst := some 21, op := Go.Op.move (Go.Operand.tmp 11), type := 4, pos := "wal.go:47", after := #[], guard := none } : Go.Oper)) (v := ?v1) rfl rfl (by kernel_rfl) (by kernel_rfl) (by kernel_rfl) (fun _ _ _ h => h) ⟨Or.inl ⟨by rfl, ?hy1⟩, fun _ => rfl⟩ ?rest1
      case hy1 => (intro w; go_simp; (try with_reducible rfl))
      (try simp only [Act.put, List.getElem_toArray, List.getElem_cons_zero, List.getElem_cons_succ, List.setIfInBounds_toArray, List.set_cons_zero, List.set_cons_succ])
      refine wpAnyIn_take (i := 1) (oi := ({ dst := some 22, op := Go.Op.unOp Go.UnOp.not 4 (Go.Operand.tmp 21), type := 4, pos := "wal.go:47", after := #[{ on := 0, ground := Go.Ground.data }], guard := none } : Go.Oper)) (v := ?v2) rfl rfl (by kernel_rfl) (by kernel_rfl) (by kernel_rfl) (fun _ _ _ h => h) ⟨Or.inl ⟨by rfl, ?hy2⟩, fun _ => rfl⟩ ?rest2
      case hy2 => (intro w; go_simp; (try with_reducible rfl))
      (try simp only [Act.put, List.getElem_toArray, List.getElem_cons_zero, List.getElem_cons_succ, List.setIfInBounds_toArray, List.set_cons_zero, List.set_cons_succ])
      refine wpAnyIn_take (i := 2) (oi := ({ dst := some 23, op := Go.Op.move (Go.Operand.tmp 22), type := 4, pos := "wal.go:47", after := #[{ on := 1, ground := Go.Ground.data }], guard := none } : Go.Oper)) (v := ?v3) rfl rfl (by kernel_rfl) (by kernel_rfl) (by kernel_rfl) (fun _ _ _ h => h) ⟨Or.inl ⟨by rfl, ?hy3⟩, fun _ => rfl⟩ ?rest3
      case hy3 => (intro w; go_simp; (try with_reducible rfl))
      (try simp only [Act.put, List.getElem_toArray, List.getElem_cons_zero, List.getElem_cons_succ, List.setIfInBounds_toArray, List.set_cons_zero, List.set_cons_succ])
      refine wpAnyIn_take (i := 3) (oi := ({ dst := some 24, op := Go.Op.load 26 (Go.Operand.tmp 5), type := 26, pos := "wal.go:47", after := #[{ on := 2, ground := Go.Ground.guard }], guard := some (2, false) } : Go.Oper)) (v := undef) rfl rfl (by kernel_rfl) (by kernel_rfl) (by kernel_rfl) (fun _ _ _ h => h) ⟨Or.inr ⟨by rfl, rfl⟩, fun _ => rfl⟩ ?_
      (try simp only [Act.put, List.getElem_toArray, List.getElem_cons_zero, List.getElem_cons_succ, List.setIfInBounds_toArray, List.set_cons_zero, List.set_cons_succ])
      refine wpAnyIn_take (i := 4) (oi := ({ dst := some 25, op := Go.Op.call { callee := Go.Callee.builtin Go.Builtin.len, args := #[Go.Operand.tmp 24], argTypes := #[26] }, type := 3, pos := "wal.go:47", after := #[{ on := 3, ground := Go.Ground.data }, { on := 2, ground := Go.Ground.guard }], guard := some (2, false) } : Go.Oper)) (v := undef) rfl rfl (by kernel_rfl) (by kernel_rfl) (by kernel_rfl) (fun _ _ _ h => h) ⟨Or.inr ⟨by rfl, rfl⟩, fun _ => rfl⟩ ?_
      (try simp only [Act.put, List.getElem_toArray, List.getElem_cons_zero, List.getElem_cons_succ, List.setIfInBounds_toArray, List.set_cons_zero, List.set_cons_succ])
      refine wpAnyIn_take (i := 5) (oi := ({ dst := some 26, op := Go.Op.binOp Go.BinOp.gtr 3 (Go.Operand.tmp 25) (Go.Operand.const (Go.Value.int Go.IntKind.i64 0)) 3, type := 4, pos := "wal.go:47", after := #[{ on := 4, ground := Go.Ground.data }, { on := 2, ground := Go.Ground.guard }], guard := some (2, false) } : Go.Oper)) (v := undef) rfl rfl (by kernel_rfl) (by kernel_rfl) (by kernel_rfl) (fun _ _ _ h => h) ⟨Or.inr ⟨by rfl, rfl⟩, fun _ => rfl⟩ ?_
      (try simp only [Act.put, List.getElem_toArray, List.getElem_cons_zero, List.getElem_cons_succ, List.setIfInBounds_toArray, List.set_cons_zero, List.set_cons_succ])
      refine wpAnyIn_take (i := 6) (oi := ({ dst := some 27, op := Go.Op.move (Go.Operand.tmp 26), type := 4, pos := "wal.go:47", after := #[{ on := 5, ground := Go.Ground.data }, { on := 2, ground := Go.Ground.chain }, { on := 2, ground := Go.Ground.guard }], guard := some (2, false) } : Go.Oper)) (v := undef) rfl rfl (by kernel_rfl) (by kernel_rfl) (by kernel_rfl) (fun _ _ _ h => h) ⟨Or.inr ⟨by rfl, rfl⟩, fun _ => rfl⟩ ?_
      (try simp only [Act.put, List.getElem_toArray, List.getElem_cons_zero, List.getElem_cons_succ, List.setIfInBounds_toArray, List.set_cons_zero, List.set_cons_succ])
      refine wpAnyIn_take (i := 7) (oi := ({ dst := some 28, op := Go.Op.load 26 (Go.Operand.tmp 5), type := 26, pos := "wal.go:47", after := #[{ on := 6, ground := Go.Ground.guard }], guard := some (6, true) } : Go.Oper)) (v := undef) rfl rfl (by kernel_rfl) (by kernel_rfl) (by kernel_rfl) (fun _ _ _ h => h) ⟨Or.inr ⟨by rfl, rfl⟩, fun _ => rfl⟩ ?_
      (try simp only [Act.put, List.getElem_toArray, List.getElem_cons_zero, List.getElem_cons_succ, List.setIfInBounds_toArray, List.set_cons_zero, List.set_cons_succ])
      refine wpAnyIn_take (i := 8) (oi := ({ dst := some 29, op := Go.Op.load 26 (Go.Operand.tmp 5), type := 26, pos := "wal.go:47", after := #[{ on := 6, ground := Go.Ground.guard }], guard := some (6, true) } : Go.Oper)) (v := undef) rfl rfl (by kernel_rfl) (by kernel_rfl) (by kernel_rfl) (fun _ _ _ h => h) ⟨Or.inr ⟨by rfl, rfl⟩, fun _ => rfl⟩ ?_
      (try simp only [Act.put, List.getElem_toArray, List.getElem_cons_zero, List.getElem_cons_succ, List.setIfInBounds_toArray, List.set_cons_zero, List.set_cons_succ])
      refine wpAnyIn_take (i := 9) (oi := ({ dst := some 30, op := Go.Op.call { callee := Go.Callee.builtin Go.Builtin.len, args := #[Go.Operand.tmp 29], argTypes := #[26] }, type := 3, pos := "wal.go:47", after := #[{ on := 8, ground := Go.Ground.data }, { on := 6, ground := Go.Ground.guard }], guard := some (6, true) } : Go.Oper)) (v := undef) rfl rfl (by kernel_rfl) (by kernel_rfl) (by kernel_rfl) (fun _ _ _ h => h) ⟨Or.inr ⟨by rfl, rfl⟩, fun _ => rfl⟩ ?_
      (try simp only [Act.put, List.getElem_toArray, List.getElem_cons_zero, List.getElem_cons_succ, List.setIfInBounds_toArray, List.set_cons_zero, List.set_cons_succ])
      refine wpAnyIn_take (i := 10) (oi := ({ dst := some 31, op := Go.Op.binOp Go.BinOp.sub 3 (Go.Operand.tmp 30) (Go.Operand.const (Go.Value.int Go.IntKind.i64 1)) 3, type := 3, pos := "wal.go:47", after := #[{ on := 9, ground := Go.Ground.data }, { on := 6, ground := Go.Ground.guard }], guard := some (6, true) } : Go.Oper)) (v := undef) rfl rfl (by kernel_rfl) (by kernel_rfl) (by kernel_rfl) (fun _ _ _ h => h) ⟨Or.inr ⟨by rfl, rfl⟩, fun _ => rfl⟩ ?_
      (try simp only [Act.put, List.getElem_toArray, List.getElem_cons_zero, List.getElem_cons_succ, List.setIfInBounds_toArray, List.set_cons_zero, List.set_cons_succ])
      refine wpAnyIn_take (i := 11) (oi := ({ dst := some 32, op := Go.Op.indexAddr 26 (Go.Operand.tmp 28) (Go.Operand.tmp 31), type := 0, pos := "wal.go:47", after := #[{ on := 7, ground := Go.Ground.data }, { on := 10, ground := Go.Ground.data }, { on := 6, ground := Go.Ground.guard }], guard := some (6, true) } : Go.Oper)) (v := undef) rfl rfl (by kernel_rfl) (by kernel_rfl) (by kernel_rfl) (fun _ _ _ h => h) ⟨Or.inr ⟨by rfl, rfl⟩, fun _ => rfl⟩ ?_
      (try simp only [Act.put, List.getElem_toArray, List.getElem_cons_zero, List.getElem_cons_succ, List.setIfInBounds_toArray, List.set_cons_zero, List.set_cons_succ])
      refine wpAnyIn_take (i := 12) (oi := ({ dst := some 33, op := Go.Op.fieldAddr 24 (Go.Operand.tmp 32) 0, type := 0, pos := "wal.go:47", after := #[{ on := 11, ground := Go.Ground.data }, { on := 6, ground := Go.Ground.guard }], guard := some (6, true) } : Go.Oper)) (v := undef) rfl rfl (by kernel_rfl) (by kernel_rfl) (by kernel_rfl) (fun _ _ _ h => h) ⟨Or.inr ⟨by rfl, rfl⟩, fun _ => rfl⟩ ?_
      (try simp only [Act.put, List.getElem_toArray, List.getElem_cons_zero, List.getElem_cons_succ, List.setIfInBounds_toArray, List.set_cons_zero, List.set_cons_succ])
      refine wpAnyIn_take (i := 13) (oi := ({ dst := some 34, op := Go.Op.load 2 (Go.Operand.tmp 33), type := 2, pos := "wal.go:47", after := #[{ on := 12, ground := Go.Ground.data }, { on := 6, ground := Go.Ground.guard }], guard := some (6, true) } : Go.Oper)) (v := undef) rfl rfl (by kernel_rfl) (by kernel_rfl) (by kernel_rfl) (fun _ _ _ h => h) ⟨Or.inr ⟨by rfl, rfl⟩, fun _ => rfl⟩ ?_
      (try simp only [Act.put, List.getElem_toArray, List.getElem_cons_zero, List.getElem_cons_succ, List.setIfInBounds_toArray, List.set_cons_zero, List.set_cons_succ])
      refine wpAnyIn_take (i := 14) (oi := ({ dst := some 35, op := Go.Op.fieldAddr 24 (Go.Operand.tmp 10) 0, type := 0, pos := "wal.go:47", after := #[{ on := 6, ground := Go.Ground.guard }], guard := some (6, true) } : Go.Oper)) (v := undef) rfl rfl (by kernel_rfl) (by kernel_rfl) (by kernel_rfl) (fun _ _ _ h => h) ⟨Or.inr ⟨by rfl, rfl⟩, fun _ => rfl⟩ ?_
      (try simp only [Act.put, List.getElem_toArray, List.getElem_cons_zero, List.getElem_cons_succ, List.setIfInBounds_toArray, List.set_cons_zero, List.set_cons_succ])
      refine wpAnyIn_take (i := 15) (oi := ({ dst := some 36, op := Go.Op.load 2 (Go.Operand.tmp 35), type := 2, pos := "wal.go:47", after := #[{ on := 14, ground := Go.Ground.data }, { on := 6, ground := Go.Ground.guard }], guard := some (6, true) } : Go.Oper)) (v := undef) rfl rfl (by kernel_rfl) (by kernel_rfl) (by kernel_rfl) (fun _ _ _ h => h) ⟨Or.inr ⟨by rfl, rfl⟩, fun _ => rfl⟩ ?_
      (try simp only [Act.put, List.getElem_toArray, List.getElem_cons_zero, List.getElem_cons_succ, List.setIfInBounds_toArray, List.set_cons_zero, List.set_cons_succ])
      refine wpAnyIn_take (i := 16) (oi := ({ dst := some 37, op := Go.Op.binOp Go.BinOp.geq 2 (Go.Operand.tmp 34) (Go.Operand.tmp 36) 2, type := 4, pos := "wal.go:47", after := #[{ on := 13, ground := Go.Ground.data }, { on := 15, ground := Go.Ground.data }, { on := 6, ground := Go.Ground.guard }], guard := some (6, true) } : Go.Oper)) (v := undef) rfl rfl (by kernel_rfl) (by kernel_rfl) (by kernel_rfl) (fun _ _ _ h => h) ⟨Or.inr ⟨by rfl, rfl⟩, fun _ => rfl⟩ ?_
      (try simp only [Act.put, List.getElem_toArray, List.getElem_cons_zero, List.getElem_cons_succ, List.setIfInBounds_toArray, List.set_cons_zero, List.set_cons_succ])
      refine wpAnyIn_take (i := 17) (oi := ({ dst := some 38, op := Go.Op.pick (Go.Operand.tmp 27) (Go.Operand.tmp 37) (Go.Operand.const (Go.Value.bool false)), type := 4, pos := "wal.go:47", after := #[{ on := 6, ground := Go.Ground.data }, { on := 16, ground := Go.Ground.data }, { on := 2, ground := Go.Ground.guard }], guard := some (2, false) } : Go.Oper)) (v := undef) rfl rfl (by kernel_rfl) (by kernel_rfl) (by kernel_rfl) (fun _ _ _ h => h) ⟨Or.inr ⟨by rfl, rfl⟩, fun _ => rfl⟩ ?_
      (try simp only [Act.put, List.getElem_toArray, List.getElem_cons_zero, List.getElem_cons_succ, List.setIfInBounds_toArray, List.set_cons_zero, List.set_cons_succ])
      refine wpAnyIn_take (i := 18) (oi := ({ dst := some 39, op := Go.Op.pick (Go.Operand.tmp 23) (Go.Operand.const (Go.Value.bool true)) (Go.Operand.tmp 38), type := 4, pos := "wal.go:47", after := #[{ on := 2, ground := Go.Ground.data }, { on := 17, ground := Go.Ground.data }], guard := none } : Go.Oper)) (v := ?v4) rfl rfl (by kernel_rfl) (by kernel_rfl) (by kernel_rfl) (fun _ _ _ h => h) ⟨Or.inl ⟨by rfl, ?hy4⟩, fun _ => rfl⟩ ?rest4
      case hy4 => (intro w; go_simp; (try with_reducible rfl))
      (try simp only [Act.put, List.getElem_toArray, List.getElem_cons_zero, List.getElem_cons_succ, List.setIfInBounds_toArray, List.set_cons_zero, List.set_cons_succ])
      refine wpAnyIn_done (by kernel_rfl) ?_ _
      gi_wp2
      all_goals
        obtain ⟨r1, r2⟩ := H3.out.halt (wa := wb.drew) (HXB.out.trans (by with_reducible (repeat (first | exact Ext.rfl_ _ | assumption | refine Ext.drew ?_ | refine Ext.drewN ?_ _ | refine Ext.alloc ?_ _ | refine Ext.trans ?_ (by assumption))))) HGET.out (.inl HP.out) (by rw [HTK.out])
        exact ⟨⟨rfl, _, _, r1⟩, r2⟩
    | some y =>
      obtain ⟨rfl, hof⟩ := hy y hrd
      have hym := mayW_iff.1 (readW_may hrd)
      have HOF := Lib.hid (newZ (T := T) hof hxa HZ3.out HT3.out)
      have HRDP := Lib.hid hrd
      have HYL := Lib.hid (show y.es.length ≤ 1000000 from by omega)
      have HB1 := Lib.hid hb10
      have hs32 : W3.heap.size ≤ w2.heap.size := hw2.size
      simp only [Option.isSome_some]
      clear hb10 hxa hw2 hy hrd hof hym hwb
      have HROW := Lib.hid H3.out.row
      cases hgl : l.getLast? with
      | none =>
        obtain rfl : l = [] := List.getLast?_eq_none_iff.1 hgl
        have HBEH := Lib.hid (behW_nil y)
        obtain ⟨A8, n8, c8, rfl, _, hr8⟩ := HROW.out.own.formN (by decide)
        obtain rfl : n8 = 0 := hr8.1.symm
        clear hr8 hgl
        refine wpIn_region_rnd (by kernel_rfl) (by kernel_rfl) rfl ?_
        (try (change wpAnyIn _ _ _ _ _ _ _ _ _ (World.drew _)))
        refine wpAnyIn_take (i := 0) (oi := ({ dst := some 21, op := Go.Op.move (Go.Operand.tmp 11), type := 4, pos := "wal.go:47", after := #[], guard := none } : Go.Oper)) (v := ?v5) rfl rfl (by kernel_rfl) (by kernel_rfl) (by kernel_rfl) (fun _ _ _ h => h) ⟨Or.inl ⟨by rfl, ?hy5⟩, fun _ => rfl⟩ ?rest5
        case hy5 => (intro w; go_simp; (try with_reducible rfl))
        (try simp only [Act.put, List.getElem_toArray, List.getElem_cons_zero, List.getElem_cons_succ, List.setIfInBounds_toArray, List.set_cons_zero, List.set_cons_succ])
        refine wpAnyIn_take (i := 1) (oi := ({ dst := some 22, op := Go.Op.unOp Go.UnOp.not 4 (Go.Operand.tmp 21), type := 4, pos := "wal.go:47", after := #[{ on := 0, ground := Go.Ground.data }], guard := none } : Go.Oper)) (v := ?v6) rfl rfl (by kernel_rfl) (by kernel_rfl) (by kernel_rfl) (fun _ _ _ h => h) ⟨Or.inl ⟨by rfl, ?hy6⟩, fun _ => rfl⟩ ?rest6
        case hy6 => (intro w; go_simp; (try with_reducible rfl))
        (try simp only [Act.put, List.getElem_toArray, List.getElem_cons_zero, List.getElem_cons_succ, List.setIfInBounds_toArray, List.set_cons_zero, List.set_cons_succ])
        refine wpAnyIn_take (i := 2) (oi := ({ dst := some 23, op := Go.Op.move (Go.Operand.tmp 22), type := 4, pos := "wal.go:47", after := #[{ on := 1, ground := Go.Ground.data }], guard := none } : Go.Oper)) (v := ?v7) rfl rfl (by kernel_rfl) (by kernel_rfl) (by kernel_rfl) (fun _ _ _ h => h) ⟨Or.inl ⟨by rfl, ?hy7⟩, fun _ => rfl⟩ ?rest7
        case hy7 => (intro w; go_simp; (try with_reducible rfl))
        (try simp only [Act.put, List.getElem_toArray, List.getElem_cons_zero, List.getElem_cons_succ, List.setIfInBounds_toArray, List.set_cons_zero, List.set_cons_succ])
        refine wpAnyIn_ready (rs := [3]) (by kernel_rfl) (by simp) ?_
        refine AllReadyIn.cons (o := ({ dst := some 24, op := Go.Op.load 26 (Go.Operand.tmp 5), type := 26, pos := "wal.go:47", after := #[{ on := 2, ground := Go.Ground.guard }], guard := some (2, false) } : Go.Oper)) rfl (fun K hK => ?_) AllReadyIn.nil
        go_simp
        refine hK _ _ ?_
        clear hK K
        (try simp only [Act.put, List.getElem_toArray, List.getElem_cons_zero, List.getElem_cons_succ, List.setIfInBounds_toArray, List.set_cons_zero, List.set_cons_succ])
        refine wpAnyIn_take (i := 4) (oi := ({ dst := some 25, op := Go.Op.call { callee := Go.Callee.builtin Go.Builtin.len, args := #[Go.Operand.tmp 24], argTypes := #[26] }, type := 3, pos := "wal.go:47", after := #[{ on := 3, ground := Go.Ground.data }, { on := 2, ground := Go.Ground.guard }], guard := some (2, false) } : Go.Oper)) (v := ?v8) rfl rfl (by kernel_rfl) (by kernel_rfl) (by kernel_rfl) (fun _ _ _ h => h) ⟨Or.inl ⟨by rfl, ?hy8⟩, fun _ => rfl⟩ ?rest8
        case hy8 => (intro w; go_simp; (try with_reducible rfl))
        (try simp only [Act.put, List.getElem_toArray, List.getElem_cons_zero, List.getElem_cons_succ, List.setIfInBounds_toArray, List.set_cons_zero, List.set_cons_succ])
        refine wpAnyIn_take (i := 5) (oi := ({ dst := some 26, op := Go.Op.binOp Go.BinOp.gtr 3 (Go.Operand.tmp 25) (Go.Operand.const (Go.Value.int Go.IntKind.i64 0)) 3, type := 4, pos := "wal.go:47", after := #[{ on := 4, ground := Go.Ground.data }, { on := 2, ground := Go.Ground.guard }], guard := some (2, false) } : Go.Oper)) (v := ?v9) rfl rfl (by kernel_rfl) (by kernel_rfl) (by kernel_rfl) (fun _ _ _ h => h) ⟨Or.inl ⟨by rfl, ?hy9⟩, fun _ => rfl⟩ ?rest9
        case hy9 => (intro w; go_simp; (try with_reducible rfl))
        (try simp only [Act.put, List.getElem_toArray, List.getElem_cons_zero, List.getElem_cons_succ, List.setIfInBounds_toArray, List.set_cons_zero, List.set_cons_succ])
        refine wpAnyIn_take (i := 6) (oi := ({ dst := some 27, op := Go.Op.move (Go.Operand.tmp 26), type := 4, pos := "wal.go:47", after := #[{ on := 5, ground := Go.Ground.data }, { on := 2, ground := Go.Ground.chain }, { on := 2, ground := Go.Ground.guard }], guard := some (2, false) } : Go.Oper)) (v := ?v10) rfl rfl (by kernel_rfl) (by kernel_rfl) (by kernel_rfl) (fun _ _ _ h => h) ⟨Or.inl ⟨by rfl, ?hy10⟩, fun _ => rfl⟩ ?rest10
        case hy10 => (intro w; go_simp; (try with_reducible rfl))
        (try simp only [Act.put, List.getElem_toArray, List.getElem_cons_zero, List.getElem_cons_succ, List.setIfInBounds_toArray, List.set_cons_zero, List.set_cons_succ])
        refine wpAnyIn_take (i := 7) (oi := ({ dst := some 28, op := Go.Op.load 26 (Go.Operand.tmp 5), type := 26, pos := "wal.go:47", after := #[{ on := 6, ground := Go.Ground.guard }], guard := some (6, true) } : Go.Oper)) (v := undef) rfl rfl (by kernel_rfl) (by kernel_rfl) (by kernel_rfl) (fun _ _ _ h => h) ⟨Or.inr ⟨by rfl, rfl⟩, fun _ => rfl⟩ ?_
        (try simp only [Act.put, List.getElem_toArray, List.getElem_cons_zero, List.getElem_cons_succ, List.setIfInBounds_toArray, List.set_cons_zero, List.set_cons_succ])
        refine wpAnyIn_take (i := 8) (oi := ({ dst := some 29, op := Go.Op.load 26 (Go.Operand.tmp 5), type := 26, pos := "wal.go:47", after := #[{ on := 6, ground := Go.Ground.guard }], guard := some (6, true) } : Go.Oper)) (v := undef) rfl rfl (by kernel_rfl) (by kernel_rfl) (by kernel_rfl) (fun _ _ _ h => h) ⟨Or.inr ⟨by rfl, rfl⟩, fun _ => rfl⟩ ?_
        (try simp only [Act.put, List.getElem_toArray, List.getElem_cons_zero, List.getElem_cons_succ, List.setIfInBounds_toArray, List.set_cons_zero, List.set_cons_succ])
        refine wpAnyIn_take (i := 9) (oi := ({ dst := some 30, op := Go.Op.call { callee := Go.Callee.builtin Go.Builtin.len, args := #[Go.Operand.tmp 29], argTypes := #[26] }, type := 3, pos := "wal.go:47", after := #[{ on := 8, ground := Go.Ground.data }, { on := 6, ground := Go.Ground.guard }], guard := some (6, true) } : Go.Oper)) (v := undef) rfl rfl (by kernel_rfl) (by kernel_rfl) (by kernel_rfl) (fun _ _ _ h => h) ⟨Or.inr ⟨by rfl, rfl⟩, fun _ => rfl⟩ ?_
        (try simp only [Act.put, List.getElem_toArray, List.getElem_cons_zero, List.getElem_cons_succ, List.setIfInBounds_toArray, List.set_cons_zero, List.set_cons_succ])
        refine wpAnyIn_take (i := 10) (oi := ({ dst := some 31, op := Go.Op.binOp Go.BinOp.sub 3 (Go.Operand.tmp 30) (Go.Operand.const (Go.Value.int Go.IntKind.i64 1)) 3, type := 3, pos := "wal.go:47", after := #[{ on := 9, ground := Go.Ground.data }, { on := 6, ground := Go.Ground.guard }], guard := some (6, true) } : Go.Oper)) (v := undef) rfl rfl (by kernel_rfl) (by kernel_rfl) (by kernel_rfl) (fun _ _ _ h => h) ⟨Or.inr ⟨by rfl, rfl⟩, fun _ => rfl⟩ ?_
        (try simp only [Act.put, List.getElem_toArray, List.getElem_cons_zero, List.getElem_cons_succ, List.setIfInBounds_toArray, List.set_cons_zero, List.set_cons_succ])
        refine wpAnyIn_take (i := 11) (oi := ({ dst := some 32, op := Go.Op.indexAddr 26 (Go.Operand.tmp 28) (Go.Operand.tmp 31), type := 0, pos := "wal.go:47", after := #[{ on := 7, ground := Go.Ground.data }, { on := 10, ground := Go.Ground.data }, { on := 6, ground := Go.Ground.guard }], guard := some (6, true) } : Go.Oper)) (v := undef) rfl rfl (by kernel_rfl) (by kernel_rfl) (by kernel_rfl) (fun _ _ _ h => h) ⟨Or.inr ⟨by rfl, rfl⟩, fun _ => rfl⟩ ?_
        (try simp only [Act.put, List.getElem_toArray, List.getElem_cons_zero, List.getElem_cons_succ, List.setIfInBounds_toArray, List.set_cons_zero, List.set_cons_succ])
        refine wpAnyIn_take (i := 12) (oi := ({ dst := some 33, op := Go.Op.fieldAddr 24 (Go.Operand.tmp 32) 0, type := 0, pos := "wal.go:47", after := #[{ on := 11, ground := Go.Ground.data }, { on := 6, ground := Go.Ground.guard }], guard := some (6, true) } : Go.Oper)) (v := undef) rfl rfl (by kernel_rfl) (by kernel_rfl) (by kernel_rfl) (fun _ _ _ h => h) ⟨Or.inr ⟨by rfl, rfl⟩, fun _ => rfl⟩ ?_
        (try simp only [Act.put, List.getElem_toArray, List.getElem_cons_zero, List.getElem_cons_succ, List.setIfInBounds_toArray, List.set_cons_zero, List.set_cons_succ])
        refine wpAnyIn_take (i := 13) (oi := ({ dst := some 34, op := Go.Op.load 2 (Go.Operand.tmp 33), type := 2, pos := "wal.go:47", after := #[{ on := 12, ground := Go.Ground.data }, { on := 6, ground := Go.Ground.guard }], guard := some (6, true) } : Go.Oper)) (v := undef) rfl rfl (by kernel_rfl) (by kernel_rfl) (by kernel_rfl) (fun _ _ _ h => h) ⟨Or.inr ⟨by rfl, rfl⟩, fun _ => rfl⟩ ?_
        (try simp only [Act.put, List.getElem_toArray, List.getElem_cons_zero, List.getElem_cons_succ, List.setIfInBounds_toArray, List.set_cons_zero, List.set_cons_succ])
        refine wpAnyIn_take (i := 14) (oi := ({ dst := some 35, op := Go.Op.fieldAddr 24 (Go.Operand.tmp 10) 0, type := 0, pos := "wal.go:47", after := #[{ on := 6, ground := Go.Ground.guard }], guard := some (6, true) } : Go.Oper)) (v := undef) rfl rfl (by kernel_rfl) (by kernel_rfl) (by kernel_rfl) (fun _ _ _ h => h) ⟨Or.inr ⟨by rfl, rfl⟩, fun _ => rfl⟩ ?_
        (try simp only [Act.put, List.getElem_toArray, List.getElem_cons_zero, List.getElem_cons_succ, List.setIfInBounds_toArray, List.set_cons_zero, List.set_cons_succ])
        refine wpAnyIn_take (i := 15) (oi := ({ dst := some 36, op := Go.Op.load 2 (Go.Operand.tmp 35), type := 2, pos := "wal.go:47", after := #[{ on := 14, ground := Go.Ground.data }, { on := 6, ground := Go.Ground.guard }], guard := some (6, true) } : Go.Oper)) (v := undef) rfl rfl (by kernel_rfl) (by kernel_rfl) (by kernel_rfl) (fun _ _ _ h => h) ⟨Or.inr ⟨by rfl, rfl⟩, fun _ => rfl⟩ ?_
        (try simp only [Act.put, List.getElem_toArray, List.getElem_cons_zero, List.getElem_cons_succ, List.setIfInBounds_toArray, List.set_cons_zero, List.set_cons_succ])
        refine wpAnyIn_take (i := 16) (oi := ({ dst := some 37, op := Go.Op.binOp Go.BinOp.geq 2 (Go.Operand.tmp 34) (Go.Operand.tmp 36) 2, type := 4, pos := "wal.go:47", after := #[{ on := 13, ground := Go.Ground.data }, { on := 15, ground := Go.Ground.data }, { on := 6, ground := Go.Ground.guard }], guard := some (6, true) } : Go.Oper)) (v := undef) rfl rfl (by kernel_rfl) (by kernel_rfl) (by kernel_rfl) (fun _ _ _ h => h) ⟨Or.inr ⟨by rfl, rfl⟩, fun _ => rfl⟩ ?_
        (try simp only [Act.put, List.getElem_toArray, List.getElem_cons_zero, List.getElem_cons_succ, List.setIfInBounds_toArray, List.set_cons_zero, List.set_cons_succ])
        refine wpAnyIn_take (i := 17) (oi := ({ dst := some 38, op := Go.Op.pick (Go.Operand.tmp 27) (Go.Operand.tmp 37) (Go.Operand.const (Go.Value.bool false)), type := 4, pos := "wal.go:47", after := #[{ on := 6, ground := Go.Ground.data }, { on := 16, ground := Go.Ground.data }, { on := 2, ground := Go.Ground.guard }], guard := some (2, false) } : Go.Oper)) (v := ?v11) rfl rfl (by kernel_rfl) (by kernel_rfl) (by kernel_rfl) (fun _ _ _ h => h) ⟨Or.inl ⟨by rfl, ?hy11⟩, fun _ => rfl⟩ ?rest11
        case hy11 => (intro w; go_simp; (try with_reducible rfl))
        (try simp only [Act.put, List.getElem_toArray, List.getElem_cons_zero, List.getElem_cons_succ, List.setIfInBounds_toArray, List.set_cons_zero, List.set_cons_succ])
        refine wpAnyIn_take (i := 18) (oi := ({ dst := some 39, op := Go.Op.pick (Go.Operand.tmp 23) (Go.Operand.const (Go.Value.bool true)) (Go.Operand.tmp 38), type := 4, pos := "wal.go:47", after := #[{ on := 2, ground := Go.Ground.data }, { on := 17, ground := Go.Ground.data }], guard := none } : Go.Oper)) (v := ?v12) rfl rfl (by kernel_rfl) (by kernel_rfl) (by kernel_rfl) (fun _ _ _ h => h) ⟨Or.inl ⟨by rfl, ?hy12⟩, fun _ => rfl⟩ ?rest12
        case hy12 => (intro w; go_simp; (try with_reducible rfl))
        (try simp only [Act.put, List.getElem_toArray, List.getElem_cons_zero, List.getElem_cons_succ, List.setIfInBounds_toArray, List.set_cons_zero, List.set_cons_succ])
        refine wpAnyIn_done (by kernel_rfl) ?_ _
        have X9 := Lib.hid (show Ext W3 wb.drew from HXB.out.trans (by with_reducible (repeat (first | exact Ext.rfl_ _ | assumption | refine Ext.drew ?_ | refine Ext.drewN ?_ _ | refine Ext.alloc ?_ _ | refine Ext.trans ?_ (by assumption)))))
        have OF9 := Lib.hid (HOF.out.ext (show Ext wb wb.drew from (by with_reducible (repeat (first | exact Ext.rfl_ _ | assumption | refine Ext.drew ?_ | refine Ext.drewN ?_ _ | refine Ext.alloc ?_ _ | refine Ext.trans ?_ (by assumption))))))
        obtain ⟨q0, q1, _, _⟩ := box2 HB1.out (show Ext wb wb.drew from (by with_reducible (repeat (first | exact Ext.rfl_ _ | assumption | refine Ext.drew ?_ | refine Ext.drewN ?_ _ | refine Ext.alloc ?_ _ | refine Ext.trans ?_ (by assumption)))))
        have c5 := (show Ext wb wb.drew from (by with_reducible (repeat (first | exact Ext.rfl_ _ | assumption | refine Ext.drew ?_ | refine Ext.drewN ?_ _ | refine Ext.alloc ?_ _ | refine Ext.trans ?_ (by assumption))))).keeps _ _ _ c5
        generalize wb.drew = w9 at X9 OF9 q0 q1 c5 ⊢
        have XA := Lib.hid (show Ext w9 (w9.alloc (.cells #[.int .i64 y.idx, .slice A2 n2 c2] 24)) from (by with_reducible (repeat (first | exact Ext.rfl_ _ | assumption | refine Ext.drew ?_ | refine Ext.drewN ?_ _ | refine Ext.alloc ?_ _ | refine Ext.trans ?_ (by assumption)))))
        have HO := Lib.hid (HROW.out.at_ (X9.out.trans XA.out))
        have OFA := Lib.hid (OF9.out.ext XA.out)
        have HBS := Lib.hid (show w.heap.size + 4 ≤ (w9.alloc (.cells #[.int .i64 y.idx, .slice A2 n2 c2] 24)).heap.size from by have := (X9.out.trans XA.out).size; have := HZ3.out; omega)
        have SZ := Lib.hid (show ([] : List Bat).length ≤ 1000000 from by first | (simp; done) | omega)
        gi_wp2_with (refine wpi_appLB rfl _ _ rfl (w.heap.size + 4) (.slice A8 0 c8) [] rfl HO.out w9 24 ⟨A2, n2, c2⟩ y rfl ⟨OFA.out, HYL.out⟩ hnc2 w9.heap.size rfl rfl SZ.out HBS.out ?_; intro v10 w10 o10 k10 g10 h10; obtain ⟨A10, n10, c10, rfl⟩ := OwnLB.slice o10; obtain ⟨d5, e5, d6, e6⟩ := H3.out.grown HZ3.out (X9.out.trans XA.out) g10; have NX := Lib.hid (H3.out.next (k := k) HT3.out HZ3.out (X9.out.trans XA.out) o10 k10 g10 h10 HGET.out HRDP.out HBEH.out ((k : Int) + (8 + (nb : Int))) (by rw [HEND.out]; simp)); clear o10 k10 g10 h10)
        refine ⟨trivial, fun h => (by simp [Fence.wide] at h), ?_⟩
        refine (callsIn_wide.2 (fsize_any nb _ HMAY.out)).mono ?_
        rintro e w11 ⟨rfl, rfl⟩
        gi_wp2
        exact ⟨⟨_, _, NX.out.1⟩, NX.out.2⟩
      | some z =>
        have HBL := Lib.hid (behW_last y hgl)
        obtain ⟨g, cl2, rfl, hgb, hcl2, hpos, hcz⟩ := OwnLB.lastB HROW.out.1 hgl
        have hcz2 := HXB.out.keeps _ _ _ hcz
        have hwr1 : IntKind.i64.wrap ((l.length : Int) - 1) = ((l.length - 1 : Nat) : Int) := by rw [IntKind.wrap_i64]; omega
        have hlt3 : ((l.length - 1 : Nat) : Int) < (l.length : Int) := by omega
        have hp0 : decide ((0 : Int) < (l.length : Int)) = true := decide_eq_true (by omega)
        have hp0' : decide (0 < l.length) = true := decide_eq_true hpos
        clear hcz hgl
        by_cases hge : y.idx ≤ z.idx
        · have hgd : decide (y.idx ≤ z.idx) = true := decide_eq_true hge
          have HF := Lib.hid (show behW l y = false from by rw [HBL.out]; exact decide_eq_false (by omega))
          clear hge
          refine wpIn_region_rnd (by kernel_rfl) (by kernel_rfl) rfl ?_
          (try (change wpAnyIn _ _ _ _ _ _ _ _ _ (World.drew _)))
          refine wpAnyIn_take (i := 0) (oi := ({ dst := some 21, op := Go.Op.move (Go.Operand.tmp 11), type := 4, pos := "wal.go:47", after := #[], guard := none } : Go.Oper)) (v := ?v13) rfl rfl (by kernel_rfl) (by kernel_rfl) (by kernel_rfl) (fun _ _ _ h => h) ⟨Or.inl ⟨by rfl, ?hy13⟩, fun _ => rfl⟩ ?rest13
          case hy13 => (intro w; go_simp; (try with_reducible rfl))
          (try simp only [Act.put, List.getElem_toArray, List.getElem_cons_zero, List.getElem_cons_succ, List.setIfInBounds_toArray, List.set_cons_zero, List.set_cons_succ])
          refine wpAnyIn_take (i := 1) (oi := ({ dst := some 22, op := Go.Op.unOp Go.UnOp.not 4 (Go.Operand.tmp 21), type := 4, pos := "wal.go:47", after := #[{ on := 0, ground := Go.Ground.data }], guard := none } : Go.Oper)) (v := ?v14) rfl rfl (by kernel_rfl) (by kernel_rfl) (by kernel_rfl) (fun _ _ _ h => h) ⟨Or.inl ⟨by rfl, ?hy14⟩, fun _ => rfl⟩ ?rest14
          case hy14 => (intro w; go_simp; (try with_reducible rfl))
          (try simp only [Act.put, List.getElem_toArray, List.getElem_cons_zero, List.getElem_cons_succ, List.setIfInBounds_toArray, List.set_cons_zero, List.set_cons_succ])
          refine wpAnyIn_take (i := 2) (oi := ({ dst := some 23, op := Go.Op.move (Go.Operand.tmp 22), type := 4, pos := "wal.go:47", after := #[{ on := 1, ground := Go.Ground.data }], guard := none } : Go.Oper)) (v := ?v15) rfl rfl (by kernel_rfl) (by kernel_rfl) (by kernel_rfl) (fun _ _ _ h => h) ⟨Or.inl ⟨by rfl, ?hy15⟩, fun _ => rfl⟩ ?rest15
          case hy15 => (intro w; go_simp; (try with_reducible rfl))
          (try simp only [Act.put, List.getElem_toArray, List.getElem_cons_zero, List.getElem_cons_succ, List.setIfInBounds_toArray, List.set_cons_zero, List.set_cons_succ])
          refine wpAnyIn_ready (rs := [3]) (by kernel_rfl) (by simp) ?_
          refine AllReadyIn.cons (o := ({ dst := some 24, op := Go.Op.load 26 (Go.Operand.tmp 5), type := 26, pos := "wal.go:47", after := #[{ on := 2, ground := Go.Ground.guard }], guard := some (2, false) } : Go.Oper)) rfl (fun K hK => ?_) AllReadyIn.nil
          go_simp
          refine hK _ _ ?_
          clear hK K
          (try simp only [Act.put, List.getElem_toArray, List.getElem_cons_zero, List.getElem_cons_succ, List.setIfInBounds_toArray, List.set_cons_zero, List.set_cons_succ])
          refine wpAnyIn_take (i := 4) (oi := ({ dst := some 25, op := Go.Op.call { callee := Go.Callee.builtin Go.Builtin.len, args := #[Go.Operand.tmp 24], argTypes := #[26] }, type := 3, pos := "wal.go:47", after := #[{ on := 3, ground := Go.Ground.data }, { on := 2, ground := Go.Ground.guard }], guard := some (2, false) } : Go.Oper)) (v := ?v16) rfl rfl (by kernel_rfl) (by kernel_rfl) (by kernel_rfl) (fun _ _ _ h => h) ⟨Or.inl ⟨by rfl, ?hy16⟩, fun _ => rfl⟩ ?rest16
          case hy16 => (intro w; go_simp; (try with_reducible rfl))
          (try simp only [Act.put, List.getElem_toArray, List.getElem_cons_zero, List.getElem_cons_succ, List.setIfInBounds_toArray, List.set_cons_zero, List.set_cons_succ])
          refine wpAnyIn_take (i := 5) (oi := ({ dst := some 26, op := Go.Op.binOp Go.BinOp.gtr 3 (Go.Operand.tmp 25) (Go.Operand.const (Go.Value.int Go.IntKind.i64 0)) 3, type := 4, pos := "wal.go:47", after := #[{ on := 4, ground := Go.Ground.data }, { on := 2, ground := Go.Ground.guard }], guard := some (2, false) } : Go.Oper)) (v := ?v17) rfl rfl (by kernel_rfl) (by kernel_rfl) (by kernel_rfl) (fun _ _ _ h => h) ⟨Or.inl ⟨by rfl, ?hy17⟩, fun _ => rfl⟩ ?rest17
          case hy17 => (intro w; go_simp; (try with_reducible rfl))
          (try simp only [Act.put, List.getElem_toArray, List.getElem_cons_zero, List.getElem_cons_succ, List.setIfInBounds_toArray, List.set_cons_zero, List.set_cons_succ])
          refine wpAnyIn_take (i := 6) (oi := ({ dst := some 27, op := Go.Op.move (Go.Operand.tmp 26), type := 4, pos := "wal.go:47", after := #[{ on := 5, ground := Go.Ground.data }, { on := 2, ground := Go.Ground.chain }, { on := 2, ground := Go.Ground.guard }], guard := some (2, false) } : Go.Oper)) (v := ?v18) rfl rfl (by kernel_rfl) (by kernel_rfl) (by kernel_rfl) (fun _ _ _ h => h) ⟨Or.inl ⟨by rfl, ?hy18⟩, fun _ => rfl⟩ ?rest18
          case hy18 => (intro w; go_simp; (try with_reducible rfl))
          (try simp only [Act.put, List.getElem_toArray, List.getElem_cons_zero, List.getElem_cons_succ, List.setIfInBounds_toArray, List.set_cons_zero, List.set_cons_succ])
          refine wpAnyIn_take (i := 14) (oi := ({ dst := some 35, op := Go.Op.fieldAddr 24 (Go.Operand.tmp 10) 0, type := 0, pos := "wal.go:47", after := #[{ on := 6, ground := Go.Ground.guard }], guard := some (6, true) } : Go.Oper)) (v := ?v19) rfl rfl (by kernel_rfl) (by kernel_rfl) (by kernel_rfl) (fun _ _ _ h => h) ⟨Or.inl ⟨by rfl, ?hy19⟩, fun _ => rfl⟩ ?rest19
          case hy19 => (intro w; go_simp; (try with_reducible rfl))
          (try simp only [Act.put, List.getElem_toArray, List.getElem_cons_zero, List.getElem_cons_succ, List.setIfInBounds_toArray, List.set_cons_zero, List.set_cons_succ])
          refine wpAnyIn_ready (rs := [7, 8, 15]) (by kernel_rfl) (by simp) ?_
          refine AllReadyIn.cons (o := ({ dst := some 28, op := Go.Op.load 26 (Go.Operand.tmp 5), type := 26, pos := "wal.go:47", after := #[{ on := 6, ground := Go.Ground.guard }], guard := some (6, true) } : Go.Oper)) rfl (fun K hK => ?one20) ?more20
          case' one20 =>
            go_simp
            refine hK _ _ ?_
            clear hK K
            (try simp only [Act.put, List.getElem_toArray, List.getElem_cons_zero, List.getElem_cons_succ, List.setIfInBounds_toArray, List.set_cons_zero, List.set_cons_succ])
            refine wpAnyIn_ready (rs := [8, 15]) (by kernel_rfl) (by simp) ?_
            refine AllReadyIn.cons (o := ({ dst := some 29, op := Go.Op.load 26 (Go.Operand.tmp 5), type := 26, pos := "wal.go:47", after := #[{ on := 6, ground := Go.Ground.guard }], guard := some (6, true) } : Go.Oper)) rfl (fun K hK => ?one21) ?more21
            case' one21 =>
              go_simp
              refine hK _ _ ?_
              clear hK K
              (try simp only [Act.put, List.getElem_toArray, List.getElem_cons_zero, List.getElem_cons_succ, List.setIfInBounds_toArray, List.set_cons_zero, List.set_cons_succ])
              refine wpAnyIn_take (i := 9) (oi := ({ dst := some 30, op := Go.Op.call { callee := Go.Callee.builtin Go.Builtin.len, args := #[Go.Operand.tmp 29], argTypes := #[26] }, type := 3, pos := "wal.go:47", after := #[{ on := 8, ground := Go.Ground.data }, { on := 6, ground := Go.Ground.guard }], guard := some (6, true) } : Go.Oper)) (v := ?v22) rfl rfl (by kernel_rfl) (by kernel_rfl) (by kernel_rfl) (fun _ _ _ h => h) ⟨Or.inl ⟨by rfl, ?hy22⟩, fun _ => rfl⟩ ?rest22
              case hy22 => (intro w; go_simp; (try with_reducible rfl))
              (try simp only [Act.put, List.getElem_toArray, List.getElem_cons_zero, List.getElem_cons_succ, List.setIfInBounds_toArray, List.set_cons_zero, List.set_cons_succ])
              refine wpAnyIn_take (i := 10) (oi := ({ dst := some 31, op := Go.Op.binOp Go.BinOp.sub 3 (Go.Operand.tmp 30) (Go.Operand.const (Go.Value.int Go.IntKind.i64 1)) 3, type := 3, pos := "wal.go:47", after := #[{ on := 9, ground := Go.Ground.data }, { on := 6, ground := Go.Ground.guard }], guard := some (6, true) } : Go.Oper)) (v := ?v23) rfl rfl (by kernel_rfl) (by kernel_rfl) (by kernel_rfl) (fun _ _ _ h => h) ⟨Or.inl ⟨by rfl, ?hy23⟩, fun _ => rfl⟩ ?rest23
              case hy23 => (intro w; go_simp; (try with_reducible rfl))
              (try simp only [Act.put, List.getElem_toArray, List.getElem_cons_zero, List.getElem_cons_succ, List.setIfInBounds_toArray, List.set_cons_zero, List.set_cons_succ])
              refine wpAnyIn_take (i := 11) (oi := ({ dst := some 32, op := Go.Op.indexAddr 26 (Go.Operand.tmp 28) (Go.Operand.tmp 31), type := 0, pos := "wal.go:47", after := #[{ on := 7, ground := Go.Ground.data }, { on := 10, ground := Go.Ground.data }, { on := 6, ground := Go.Ground.guard }], guard := some (6, true) } : Go.Oper)) (v := ?v24) rfl rfl (by kernel_rfl) (by kernel_rfl) (by kernel_rfl) (fun _ _ _ h => h) ⟨Or.inl ⟨by rfl, ?hy24⟩, fun _ => rfl⟩ ?rest24
              case hy24 => (intro w; go_simp; (try with_reducible rfl))
              (try simp only [Act.put, List.getElem_toArray, List.getElem_cons_zero, List.getElem_cons_succ, List.setIfInBounds_toArray, List.set_cons_zero, List.set_cons_succ])
              refine wpAnyIn_take (i := 12) (oi := ({ dst := some 33, op := Go.Op.fieldAddr 24 (Go.Operand.tmp 32) 0, type := 0, pos := "wal.go:47", after := #[{ on := 11, ground := Go.Ground.data }, { on := 6, ground := Go.Ground.guard }], guard := some (6, true) } : Go.Oper)) (v := ?v25) rfl rfl (by kernel_rfl) (by kernel_rfl) (by kernel_rfl) (fun _ _ _ h => h) ⟨Or.inl ⟨by rfl, ?hy25⟩, fun _ => rfl⟩ ?rest25
              case hy25 => (intro w; go_simp; (try with_reducible rfl))
              (try simp only [Act.put, List.getElem_toArray, List.getElem_cons_zero, List.getElem_cons_succ, List.setIfInBounds_toArray, List.set_cons_zero, List.set_cons_succ])
              refine wpAnyIn_ready (rs := [13, 15]) (by kernel_rfl) (by simp) ?_
              refine AllReadyIn.cons (o := ({ dst := some 34, op := Go.Op.load 2 (Go.Operand.tmp 33), type := 2, pos := "wal.go:47", after := #[{ on := 12, ground := Go.Ground.data }, { on := 6, ground := Go.Ground.guard }], guard := some (6, true) } : Go.Oper)) rfl (fun K hK => ?one26) ?more26
              case' one26 =>
                go_simp
                refine hK _ _ ?_
                clear hK K
                (try simp only [Act.put, List.getElem_toArray, List.getElem_cons_zero, List.getElem_cons_succ, List.setIfInBounds_toArray, List.set_cons_zero, List.set_cons_succ])
                refine wpAnyIn_ready (rs := [15]) (by kernel_rfl) (by simp) ?_
                refine AllReadyIn.cons (o := ({ dst := some 36, op := Go.Op.load 2 (Go.Operand.tmp 35), type := 2, pos := "wal.go:47", after := #[{ on := 14, ground := Go.Ground.data }, { on := 6, ground := Go.Ground.guard }], guard := some (6, true) } : Go.Oper)) rfl (fun K hK => ?_) AllReadyIn.nil
                go_simp
                refine hK _ _ ?_
                clear hK K
                (try simp only [Act.put, List.getElem_toArray, List.getElem_cons_zero, List.getElem_cons_succ, List.setIfInBounds_toArray, List.set_cons_zero, List.set_cons_succ])
                refine wpAnyIn_take (i := 16) (oi := ({ dst := some 37, op := Go.Op.binOp Go.BinOp.geq 2 (Go.Operand.tmp 34) (Go.Operand.tmp 36) 2, type := 4, pos := "wal.go:47", after := #[{ on := 13, ground := Go.Ground.data }, { on := 15, ground := Go.Ground.data }, { on := 6, ground := Go.Ground.guard }], guard := some (6, true) } : Go.Oper)) (v := ?v27) rfl rfl (by kernel_rfl) (by kernel_rfl) (by kernel_rfl) (fun _ _ _ h => h) ⟨Or.inl ⟨by rfl, ?hy27⟩, fun _ => rfl⟩ ?rest27
                case hy27 => (intro w; go_simp; (try with_reducible rfl))
                (try simp only [Act.put, List.getElem_toArray, List.getElem_cons_zero, List.getElem_cons_succ, List.setIfInBounds_toArray, List.set_cons_zero, List.set_cons_succ])
                refine wpAnyIn_take (i := 17) (oi := ({ dst := some 38, op := Go.Op.pick (Go.Operand.tmp 27) (Go.Operand.tmp 37) (Go.Operand.const (Go.Value.bool false)), type := 4, pos := "wal.go:47", after := #[{ on := 6, ground := Go.Ground.data }, { on := 16, ground := Go.Ground.data }, { on := 2, ground := Go.Ground.guard }], guard := some (2, false) } : Go.Oper)) (v := ?v28) rfl rfl (by kernel_rfl) (by kernel_rfl) (by kernel_rfl) (fun _ _ _ h => h) ⟨Or.inl ⟨by rfl, ?hy28⟩, fun _ => rfl⟩ ?rest28
                case hy28 => (intro w; go_simp; (try with_reducible rfl))
                (try simp only [Act.put, List.getElem_toArray, List.getElem_cons_zero, List.getElem_cons_succ, List.setIfInBounds_toArray, List.set_cons_zero, List.set_cons_succ])
                refine wpAnyIn_take (i := 18) (oi := ({ dst := some 39, op := Go.Op.pick (Go.Operand.tmp 23) (Go.Operand.const (Go.Value.bool true)) (Go.Operand.tmp 38), type := 4, pos := "wal.go:47", after := #[{ on := 2, ground := Go.Ground.data }, { on := 17, ground := Go.Ground.data }], guard := none } : Go.Oper)) (v := ?v29) rfl rfl (by kernel_rfl) (by kernel_rfl) (by kernel_rfl) (fun _ _ _ h => h) ⟨Or.inl ⟨by rfl, ?hy29⟩, fun _ => rfl⟩ ?rest29
                case hy29 => (intro w; go_simp; (try with_reducible rfl))
                (try simp only [Act.put, List.getElem_toArray, List.getElem_cons_zero, List.getElem_cons_succ, List.setIfInBounds_toArray, List.set_cons_zero, List.set_cons_succ])
                refine wpAnyIn_done (by kernel_rfl) ?_ _
              case' more26 =>
                refine AllReadyIn.cons (o := ({ dst := some 36, op := Go.Op.load 2 (Go.Operand.tmp 35), type := 2, pos := "wal.go:47", after := #[{ on := 14, ground := Go.Ground.data }, { on := 6, ground := Go.Ground.guard }], guard := some (6, true) } : Go.Oper)) rfl (fun K hK => ?_) AllReadyIn.nil
                go_simp
                refine hK _ _ ?_
                clear hK K
                (try simp only [Act.put, List.getElem_toArray, List.getElem_cons_zero, List.getElem_cons_succ, List.setIfInBounds_toArray, List.set_cons_zero, List.set_cons_succ])
                refine wpAnyIn_ready (rs := [13]) (by kernel_rfl) (by simp) ?_
                refine AllReadyIn.cons (o := ({ dst := some 34, op := Go.Op.load 2 (Go.Operand.tmp 33), type := 2, pos := "wal.go:47", after := #[{ on := 12, ground := Go.Ground.data }, { on := 6, ground := Go.Ground.guard }], guard := some (6, true) } : Go.Oper)) rfl (fun K hK => ?_) AllReadyIn.nil
                go_simp
                refine hK _ _ ?_
                clear hK K
                (try simp only [Act.put, List.getElem_toArray, List.getElem_cons_zero, List.getElem_cons_succ, List.setIfInBounds_toArray, List.set_cons_zero, List.set_cons_succ])
                refine wpAnyIn_take (i := 16) (oi := ({ dst := some 37, op := Go.Op.binOp Go.BinOp.geq 2 (Go.Operand.tmp 34) (Go.Operand.tmp 36) 2, type := 4, pos := "wal.go:47", after := #[{ on := 13, ground := Go.Ground.data }, { on := 15, ground := Go.Ground.data }, { on := 6, ground := Go.Ground.guard }], guard := some (6, true) } : Go.Oper)) (v := ?v30) rfl rfl (by kernel_rfl) (by kernel_rfl) (by kernel_rfl) (fun _ _ _ h => h) ⟨Or.inl ⟨by rfl, ?hy30⟩, fun _ => rfl⟩ ?rest30
                case hy30 => (intro w; go_simp; (try with_reducible rfl))
                (try simp only [Act.put, List.getElem_toArray, List.getElem_cons_zero, List.getElem_cons_succ, List.setIfInBounds_toArray, List.set_cons_zero, List.set_cons_succ])
                refine wpAnyIn_take (i := 17) (oi := ({ dst := some 38, op := Go.Op.pick (Go.Operand.tmp 27) (Go.Operand.tmp 37) (Go.Operand.const (Go.Value.bool false)), type := 4, pos := "wal.go:47", after := #[{ on := 6, ground := Go.Ground.data }, { on := 16, ground := Go.Ground.data }, { on := 2, ground := Go.Ground.guard }], guard := some (2, false) } : Go.Oper)) (v := ?v31) rfl rfl (by kernel_rfl) (by kernel_rfl) (by kernel_rfl) (fun _ _ _ h => h) ⟨Or.inl ⟨by rfl, ?hy31⟩, fun _ => rfl⟩ ?rest31
                case hy31 => (intro w; go_simp; (try with_reducible rfl))
                (try simp only [Act.put, List.getElem_toArray, List.getElem_cons_zero, List.getElem_cons_succ, List.setIfInBounds_toArray, List.set_cons_zero, List.set_cons_succ])
                refine wpAnyIn_take (i := 18) (oi := ({ dst := some 39, op := Go.Op.pick (Go.Operand.tmp 23) (Go.Operand.const (Go.Value.bool true)) (Go.Operand.tmp 38), type := 4, pos := "wal.go:47", after := #[{ on := 2, ground := Go.Ground.data }, { on := 17, ground := Go.Ground.data }], guard := none } : Go.Oper)) (v := ?v32) rfl rfl (by kernel_rfl) (by kernel_rfl) (by kernel_rfl) (fun _ _ _ h => h) ⟨Or.inl ⟨by rfl, ?hy32⟩, fun _ => rfl⟩ ?rest32
                case hy32 => (intro w; go_simp; (try with_reducible rfl))
                (try simp only [Act.put, List.getElem_toArray, List.getElem_cons_zero, List.getElem_cons_succ, List.setIfInBounds_toArray, List.set_cons_zero, List.set_cons_succ])
                refine wpAnyIn_done (by kernel_rfl) ?_ _
            case' more21 =>
              refine AllReadyIn.cons (o := ({ dst := some 36, op := Go.Op.load 2 (Go.Operand.tmp 35), type := 2, pos := "wal.go:47", after := #[{ on := 14, ground := Go.Ground.data }, { on := 6, ground := Go.Ground.guard }], guard := some (6, true) } : Go.Oper)) rfl (fun K hK => ?_) AllReadyIn.nil
              go_simp
              refine hK _ _ ?_
              clear hK K
              (try simp only [Act.put, List.getElem_toArray, List.getElem_cons_zero, List.getElem_cons_succ, List.setIfInBounds_toArray, List.set_cons_zero, List.set_cons_succ])
              refine wpAnyIn_ready (rs := [8]) (by kernel_rfl) (by simp) ?_
              refine AllReadyIn.cons (o := ({ dst := some 29, op := Go.Op.load 26 (Go.Operand.tmp 5), type := 26, pos := "wal.go:47", after := #[{ on := 6, ground := Go.Ground.guard }], guard := some (6, true) } : Go.Oper)) rfl (fun K hK => ?_) AllReadyIn.nil
              go_simp
              refine hK _ _ ?_
              clear hK K
              (try simp only [Act.put, List.getElem_toArray, List.getElem_cons_zero, List.getElem_cons_succ, List.setIfInBounds_toArray, List.set_cons_zero, List.set_cons_succ])
              refine wpAnyIn_take (i := 9) (oi := ({ dst := some 30, op := Go.Op.call { callee := Go.Callee.builtin Go.Builtin.len, args := #[Go.Operand.tmp 29], argTypes := #[26] }, type := 3, pos := "wal.go:47", after := #[{ on := 8, ground := Go.Ground.data }, { on := 6, ground := Go.Ground.guard }], guard := some (6, true) } : Go.Oper)) (v := ?v33) rfl rfl (by kernel_rfl) (by kernel_rfl) (by kernel_rfl) (fun _ _ _ h => h) ⟨Or.inl ⟨by rfl, ?hy33⟩, fun _ => rfl⟩ ?rest33
              case hy33 => (intro w; go_simp; (try with_reducible rfl))
              (try simp only [Act.put, List.getElem_toArray, List.getElem_cons_zero, List.getElem_cons_succ, List.setIfInBounds_toArray, List.set_cons_zero, List.set_cons_succ])
              refine wpAnyIn_take (i := 10) (oi := ({ dst := some 31, op := Go.Op.binOp Go.BinOp.sub 3 (Go.Operand.tmp 30) (Go.Operand.const (Go.Value.int Go.IntKind.i64 1)) 3, type := 3, pos := "wal.go:47", after := #[{ on := 9, ground := Go.Ground.data }, { on := 6, ground := Go.Ground.guard }], guard := some (6, true) } : Go.Oper)) (v := ?v34) rfl rfl (by kernel_rfl) (by kernel_rfl) (by kernel_rfl) (fun _ _ _ h => h) ⟨Or.inl ⟨by rfl, ?hy34⟩, fun _ => rfl⟩ ?rest34
              case hy34 => (intro w; go_simp; (try with_reducible rfl))
              (try simp only [Act.put, List.getElem_toArray, List.getElem_cons_zero, List.getElem_cons_succ, List.setIfInBounds_toArray, List.set_cons_zero, List.set_cons_succ])
              refine wpAnyIn_take (i := 11) (oi := ({ dst := some 32, op := Go.Op.indexAddr 26 (Go.Operand.tmp 28) (Go.Operand.tmp 31), type := 0, pos := "wal.go:47", after := #[{ on := 7, ground := Go.Ground.data }, { on := 10, ground := Go.Ground.data }, { on := 6, ground := Go.Ground.guard }], guard := some (6, true) } : Go.Oper)) (v := ?v35) rfl rfl (by kernel_rfl) (by kernel_rfl) (by kernel_rfl) (fun _ _ _ h => h) ⟨Or.inl ⟨by rfl, ?hy35⟩, fun _ => rfl⟩ ?rest35
              case hy35 => (intro w; go_simp; (try with_reducible rfl))
              (try simp only [Act.put, List.getElem_toArray, List.getElem_cons_zero, List.getElem_cons_succ, List.setIfInBounds_toArray, List.set_cons_zero, List.set_cons_succ])
              refine wpAnyIn_take (i := 12) (oi := ({ dst := some 33, op := Go.Op.fieldAddr 24 (Go.Operand.tmp 32) 0, type := 0, pos := "wal.go:47", after := #[{ on := 11, ground := Go.Ground.data }, { on := 6, ground := Go.Ground.guard }], guard := some (6, true) } : Go.Oper)) (v := ?v36) rfl rfl (by kernel_rfl) (by kernel_rfl) (by kernel_rfl) (fun _ _ _ h => h) ⟨Or.inl ⟨by rfl, ?hy36⟩, fun _ => rfl⟩ ?rest36
              case hy36 => (intro w; go_simp; (try with_reducible rfl))
              (try simp only [Act.put, List.getElem_toArray, List.getElem_cons_zero, List.getElem_cons_succ, List.setIfInBounds_toArray, List.set_cons_zero, List.set_cons_succ])
              refine wpAnyIn_ready (rs := [13]) (by kernel_rfl) (by simp) ?_
              refine AllReadyIn.cons (o := ({ dst := some 34, op := Go.Op.load 2 (Go.Operand.tmp 33), type := 2, pos := "wal.go:47", after := #[{ on := 12, ground := Go.Ground.data }, { on := 6, ground := Go.Ground.guard }], guard := some (6, true) } : Go.Oper)) rfl (fun K hK => ?_) AllReadyIn.nil
              go_simp
              refine hK _ _ ?_
              clear hK K
              (try simp only [Act.put, List.getElem_toArray, List.getElem_cons_zero, List.getElem_cons_succ, List.setIfInBounds_toArray, List.set_cons_zero, List.set_cons_succ])
              refine wpAnyIn_take (i := 16) (oi := ({ dst := some 37, op := Go.Op.binOp Go.BinOp.geq 2 (Go.Operand.tmp 34) (Go.Operand.tmp 36) 2, type := 4, pos := "wal.go:47", after := #[{ on := 13, ground := Go.Ground.data }, { on := 15, ground := Go.Ground.data }, { on := 6, ground := Go.Ground.guard }], guard := some (6, true) } : Go.Oper)) (v := ?v37) rfl rfl (by kernel_rfl) (by kernel_rfl) (by kernel_rfl) (fun _ _ _ h => h) ⟨Or.inl ⟨by rfl, ?hy37⟩, fun _ => rfl⟩ ?rest37
              case hy37 => (intro w; go_simp; (try with_reducible rfl))
              (try simp only [Act.put, List.getElem_toArray, List.getElem_cons_zero, List.getElem_cons_succ, List.setIfInBounds_toArray, List.set_cons_zero, List.set_cons_succ])
              refine wpAnyIn_take (i := 17) (oi := ({ dst := some 38, op := Go.Op.pick (Go.Operand.tmp 27) (Go.Operand.tmp 37) (Go.Operand.const (Go.Value.bool false)), type := 4, pos := "wal.go:47", after := #[{ on := 6, ground := Go.Ground.data }, { on := 16, ground := Go.Ground.data }, { on := 2, ground := Go.Ground.guard }], guard := some (2, false) } : Go.Oper)) (v := ?v38) rfl rfl (by kernel_rfl) (by kernel_rfl) (by kernel_rfl) (fun _ _ _ h => h) ⟨Or.inl ⟨by rfl, ?hy38⟩, fun _ => rfl⟩ ?rest38
              case hy38 => (intro w; go_simp; (try with_reducible rfl))
              (try simp only [Act.put, List.getElem_toArray, List.getElem_cons_zero, List.getElem_cons_succ, List.setIfInBounds_toArray, List.set_cons_zero, List.set_cons_succ])
              refine wpAnyIn_take (i := 18) (oi := ({ dst := some 39, op := Go.Op.pick (Go.Operand.tmp 23) (Go.Operand.const (Go.Value.bool true)) (Go.Operand.tmp 38), type := 4, pos := "wal.go:47", after := #[{ on := 2, ground := Go.Ground.data }, { on := 17, ground := Go.Ground.data }], guard := none } : Go.Oper)) (v := ?v39) rfl rfl (by kernel_rfl) (by kernel_rfl) (by kernel_rfl) (fun _ _ _ h => h) ⟨Or.inl ⟨by rfl, ?hy39⟩, fun _ => rfl⟩ ?rest39
              case hy39 => (intro w; go_simp; (try with_reducible rfl))
              (try simp only [Act.put, List.getElem_toArray, List.getElem_cons_zero, List.getElem_cons_succ, List.setIfInBounds_toArray, List.set_cons_zero, List.set_cons_succ])
              refine wpAnyIn_done (by kernel_rfl) ?_ _
          case' more20 =>
            refine AllReadyIn.cons (o := ({ dst := some 29, op := Go.Op.load 26 (Go.Operand.tmp 5), type := 26, pos := "wal.go:47", after := #[{ on := 6, ground := Go.Ground.guard }], guard := some (6, true) } : Go.Oper)) rfl (fun K hK => ?one40) ?more40
            case' one40 =>
              go_simp
              refine hK _ _ ?_
              clear hK K
              (try simp only [Act.put, List.getElem_toArray, List.getElem_cons_zero, List.getElem_cons_succ, List.setIfInBounds_toArray, List.set_cons_zero, List.set_cons_succ])
              refine wpAnyIn_take (i := 9) (oi := ({ dst := some 30, op := Go.Op.call { callee := Go.Callee.builtin Go.Builtin.len, args := #[Go.Operand.tmp 29], argTypes := #[26] }, type := 3, pos := "wal.go:47", after := #[{ on := 8, ground := Go.Ground.data }, { on := 6, ground := Go.Ground.guard }], guard := some (6, true) } : Go.Oper)) (v := ?v41) rfl rfl (by kernel_rfl) (by kernel_rfl) (by kernel_rfl) (fun _ _ _ h => h) ⟨Or.inl ⟨by rfl, ?hy41⟩, fun _ => rfl⟩ ?rest41
              case hy41 => (intro w; go_simp; (try with_reducible rfl))
              (try simp only [Act.put, List.getElem_toArray, List.getElem_cons_zero, List.getElem_cons_succ, List.setIfInBounds_toArray, List.set_cons_zero, List.set_cons_succ])
              refine wpAnyIn_take (i := 10) (oi := ({ dst := some 31, op := Go.Op.binOp Go.BinOp.sub 3 (Go.Operand.tmp 30) (Go.Operand.const (Go.Value.int Go.IntKind.i64 1)) 3, type := 3, pos := "wal.go:47", after := #[{ on := 9, ground := Go.Ground.data }, { on := 6, ground := Go.Ground.guard }], guard := some (6, true) } : Go.Oper)) (v := ?v42) rfl rfl (by kernel_rfl) (by kernel_rfl) (by kernel_rfl) (fun _ _ _ h => h) ⟨Or.inl ⟨by rfl, ?hy42⟩, fun _ => rfl⟩ ?rest42
              case hy42 => (intro w; go_simp; (try with_reducible rfl))
              (try simp only [Act.put, List.getElem_toArray, List.getElem_cons_zero, List.getElem_cons_succ, List.setIfInBounds_toArray, List.set_cons_zero, List.set_cons_succ])
              refine wpAnyIn_ready (rs := [7, 15]) (by kernel_rfl) (by simp) ?_
              refine AllReadyIn.cons (o := ({ dst := some 28, op := Go.Op.load 26 (Go.Operand.tmp 5), type := 26, pos := "wal.go:47", after := #[{ on := 6, ground := Go.Ground.guard }], guard := some (6, true) } : Go.Oper)) rfl (fun K hK => ?one43) ?more43
              case' one43 =>
                go_simp
                refine hK _ _ ?_
                clear hK K
                (try simp only [Act.put, List.getElem_toArray, List.getElem_cons_zero, List.getElem_cons_succ, List.setIfInBounds_toArray, List.set_cons_zero, List.set_cons_succ])
                refine wpAnyIn_take (i := 11) (oi := ({ dst := some 32, op := Go.Op.indexAddr 26 (Go.Operand.tmp 28) (Go.Operand.tmp 31), type := 0, pos := "wal.go:47", after := #[{ on := 7, ground := Go.Ground.data }, { on := 10, ground := Go.Ground.data }, { on := 6, ground := Go.Ground.guard }], guard := some (6, true) } : Go.Oper)) (v := ?v44) rfl rfl (by kernel_rfl) (by kernel_rfl) (by kernel_rfl) (fun _ _ _ h => h) ⟨Or.inl ⟨by rfl, ?hy44⟩, fun _ => rfl⟩ ?rest44
                case hy44 => (intro w; go_simp; (try with_reducible rfl))
                (try simp only [Act.put, List.getElem_toArray, List.getElem_cons_zero, List.getElem_cons_succ, List.setIfInBounds_toArray, List.set_cons_zero, List.set_cons_succ])
                refine wpAnyIn_take (i := 12) (oi := ({ dst := some 33, op := Go.Op.fieldAddr 24 (Go.Operand.tmp 32) 0, type := 0, pos := "wal.go:47", after := #[{ on := 11, ground := Go.Ground.data }, { on := 6, ground := Go.Ground.guard }], guard := some (6, true) } : Go.Oper)) (v := ?v45) rfl rfl (by kernel_rfl) (by kernel_rfl) (by kernel_rfl) (fun _ _ _ h => h) ⟨Or.inl ⟨by rfl, ?hy45⟩, fun _ => rfl⟩ ?rest45
                case hy45 => (intro w; go_simp; (try with_reducible rfl))
                (try simp only [Act.put, List.getElem_toArray, List.getElem_cons_zero, List.getElem_cons_succ, List.setIfInBounds_toArray, List.set_cons_zero, List.set_cons_succ])
                refine wpAnyIn_ready (rs := [13, 15]) (by kernel_rfl) (by simp) ?_
                refine AllReadyIn.cons (o := ({ dst := some 34, op := Go.Op.load 2 (Go.Operand.tmp 33), type := 2, pos := "wal.go:47", after := #[{ on := 12, ground := Go.Ground.data }, { on := 6, ground := Go.Ground.guard }], guard := some (6, true) } : Go.Oper)) rfl (fun K hK => ?one46) ?more46
                case' one46 =>
                  go_simp
                  refine hK _ _ ?_
                  clear hK K
                  (try simp only [Act.put, List.getElem_toArray, List.getElem_cons_zero, List.getElem_cons_succ, List.setIfInBounds_toArray, List.set_cons_zero, List.set_cons_succ])
                  refine wpAnyIn_ready (rs := [15]) (by kernel_rfl) (by simp) ?_
                  refine AllReadyIn.cons (o := ({ dst := some 36, op := Go.Op.load 2 (Go.Operand.tmp 35), type := 2, pos := "wal.go:47", after := #[{ on := 14, ground := Go.Ground.data }, { on := 6, ground := Go.Ground.guard }], guard := some (6, true) } : Go.Oper)) rfl (fun K hK => ?_) AllReadyIn.nil
                  go_simp
                  refine hK _ _ ?_
                  clear hK K
                  (try simp only [Act.put, List.getElem_toArray, List.getElem_cons_zero, List.getElem_cons_succ, List.setIfInBounds_toArray, List.set_cons_zero, List.set_cons_succ])
                  refine wpAnyIn_take (i := 16) (oi := ({ dst := some 37, op := Go.Op.binOp Go.BinOp.geq 2 (Go.Operand.tmp 34) (Go.Operand.tmp 36) 2, type := 4, pos := "wal.go:47", after := #[{ on := 13, ground := Go.Ground.data }, { on := 15, ground := Go.Ground.data }, { on := 6, ground := Go.Ground.guard }], guard := some (6, true) } : Go.Oper)) (v := ?v47) rfl rfl (by kernel_rfl) (by kernel_rfl) (by kernel_rfl) (fun _ _ _ h => h) ⟨Or.inl ⟨by rfl, ?hy47⟩, fun _ => rfl⟩ ?rest47
                  case hy47 => (intro w; go_simp; (try with_reducible rfl))
                  (try simp only [Act.put, List.getElem_toArray, List.getElem_cons_zero, List.getElem_cons_succ, List.setIfInBounds_toArray, List.set_cons_zero, List.set_cons_succ])
                  refine wpAnyIn_take (i := 17) (oi := ({ dst := some 38, op := Go.Op.pick (Go.Operand.tmp 27) (Go.Operand.tmp 37) (Go.Operand.const (Go.Value.bool false)), type := 4, pos := "wal.go:47", after := #[{ on := 6, ground := Go.Ground.data }, { on := 16, ground := Go.Ground.data }, { on := 2, ground := Go.Ground.guard }], guard := some (2, false) } : Go.Oper)) (v := ?v48) rfl rfl (by kernel_rfl) (by kernel_rfl) (by kernel_rfl) (fun _ _ _ h => h) ⟨Or.inl ⟨by rfl, ?hy48⟩, fun _ => rfl⟩ ?rest48
                  case hy48 => (intro w; go_simp; (try with_reducible rfl))
                  (try simp only [Act.put, List.getElem_toArray, List.getElem_cons_zero, List.getElem_cons_succ, List.setIfInBounds_toArray, List.set_cons_zero, List.set_cons_succ])
                  refine wpAnyIn_take (i := 18) (oi := ({ dst := some 39, op := Go.Op.pick (Go.Operand.tmp 23) (Go.Operand.const (Go.Value.bool true)) (Go.Operand.tmp 38), type := 4, pos := "wal.go:47", after := #[{ on := 2, ground := Go.Ground.data }, { on := 17, ground := Go.Ground.data }], guard := none } : Go.Oper)) (v := ?v49) rfl rfl (by kernel_rfl) (by kernel_rfl) (by kernel_rfl) (fun _ _ _ h => h) ⟨Or.inl ⟨by rfl, ?hy49⟩, fun _ => rfl⟩ ?rest49
                  case hy49 => (intro w; go_simp; (try with_reducible rfl))
                  (try simp only [Act.put, List.getElem_toArray, List.getElem_cons_zero, List.getElem_cons_succ, List.setIfInBounds_toArray, List.set_cons_zero, List.set_cons_succ])
                  refine wpAnyIn_done (by kernel_rfl) ?_ _
                case' more46 =>
                  refine AllReadyIn.cons (o := ({ dst := some 36, op := Go.Op.load 2 (Go.Operand.tmp 35), type := 2, pos := "wal.go:47", after := #[{ on := 14, ground := Go.Ground.data }, { on := 6, ground := Go.Ground.guard }], guard := some (6, true) } : Go.Oper)) rfl (fun K hK => ?_) AllReadyIn.nil
                  go_simp
                  refine hK _ _ ?_
                  clear hK K
                  (try simp only [Act.put, List.getElem_toArray, List.getElem_cons_zero, List.getElem_cons_succ, List.setIfInBounds_toArray, List.set_cons_zero, List.set_cons_succ])
                  refine wpAnyIn_ready (rs := [13]) (by kernel_rfl) (by simp) ?_
                  refine AllReadyIn.cons (o := ({ dst := some 34, op := Go.Op.load 2 (Go.Operand.tmp 33), type := 2, pos := "wal.go:47", after := #[{ on := 12, ground := Go.Ground.data }, { on := 6, ground := Go.Ground.guard }], guard := some (6, true) } : Go.Oper)) rfl (fun K hK => ?_) AllReadyIn.nil
                  go_simp
                  refine hK _ _ ?_
                  clear hK K
                  (try simp only [Act.put, List.getElem_toArray, List.getElem_cons_zero, List.getElem_cons_succ, List.setIfInBounds_toArray, List.set_cons_zero, List.set_cons_succ])
                  refine wpAnyIn_take (i := 16) (oi := ({ dst := some 37, op := Go.Op.binOp Go.BinOp.geq 2 (Go.Operand.tmp 34) (Go.Operand.tmp 36) 2, type := 4, pos := "wal.go:47", after := #[{ on := 13, ground := Go.Ground.data }, { on := 15, ground := Go.Ground.data }, { on := 6, ground := Go.Ground.guard }], guard := some (6, true) } : Go.Oper)) (v := ?v50) rfl rfl (by kernel_rfl) (by kernel_rfl) (by kernel_rfl) (fun _ _ _ h => h) ⟨Or.inl ⟨by rfl, ?hy50⟩, fun _ => rfl⟩ ?rest50
                  case hy50 => (intro w; go_simp; (try with_reducible rfl))
                  (try simp only [Act.put, List.getElem_toArray, List.getElem_cons_zero, List.getElem_cons_succ, List.setIfInBounds_toArray, List.set_cons_zero, List.set_cons_succ])
                  refine wpAnyIn_take (i := 17) (oi := ({ dst := some 38, op := Go.Op.pick (Go.Operand.tmp 27) (Go.Operand.tmp 37) (Go.Operand.const (Go.Value.bool false)), type := 4, pos := "wal.go:47", after := #[{ on := 6, ground := Go.Ground.data }, { on := 16, ground := Go.Ground.data }, { on := 2, ground := Go.Ground.guard }], guard := some (2, false) } : Go.Oper)) (v := ?v51) rfl rfl (by kernel_rfl) (by kernel_rfl) (by kernel_rfl) (fun _ _ _ h => h) ⟨Or.inl ⟨by rfl, ?hy51⟩, fun _ => rfl⟩ ?rest51
                  case hy51 => (intro w; go_simp; (try with_reducible rfl))
                  (try simp only [Act.put, List.getElem_toArray, List.getElem_cons_zero, List.getElem_cons_succ, List.setIfInBounds_toArray, List.set_cons_zero, List.set_cons_succ])
                  refine wpAnyIn_take (i := 18) (oi := ({ dst := some 39, op := Go.Op.pick (Go.Operand.tmp 23) (Go.Operand.const (Go.Value.bool true)) (Go.Operand.tmp 38), type := 4, pos := "wal.go:47", after := #[{ on := 2, ground := Go.Ground.data }, { on := 17, ground := Go.Ground.data }], guard := none } : Go.Oper)) (v := ?v52) rfl rfl (by kernel_rfl) (by kernel_rfl) (by kernel_rfl) (fun _ _ _ h => h) ⟨Or.inl ⟨by rfl, ?hy52⟩, fun _ => rfl⟩ ?rest52
                  case hy52 => (intro w; go_simp; (try with_reducible rfl))
                  (try simp only [Act.put, List.getElem_toArray, List.getElem_cons_zero, List.getElem_cons_succ, List.setIfInBounds_toArray, List.set_cons_zero, List.set_cons_succ])
                  refine wpAnyIn_done (by kernel_rfl) ?_ _
              case' more43 =>
                refine AllReadyIn.cons (o := ({ dst := some 36, op := Go.Op.load 2 (Go.Operand.tmp 35), type := 2, pos := "wal.go:47", after := #[{ on := 14, ground := Go.Ground.data }, { on := 6, ground := Go.Ground.guard }], guard := some (6, true) } : Go.Oper)) rfl (fun K hK => ?_) AllReadyIn.nil
                go_simp
                refine hK _ _ ?_
                clear hK K
                (try simp only [Act.put, List.getElem_toArray, List.getElem_cons_zero, List.getElem_cons_succ, List.setIfInBounds_toArray, List.set_cons_zero, List.set_cons_succ])
                refine wpAnyIn_ready (rs := [7]) (by kernel_rfl) (by simp) ?_
                refine AllReadyIn.cons (o := ({ dst := some 28, op := Go.Op.load 26 (Go.Operand.tmp 5), type := 26, pos := "wal.go:47", after := #[{ on := 6, ground := Go.Ground.guard }], guard := some (6, true) } : Go.Oper)) rfl (fun K hK => ?_) AllReadyIn.nil
                go_simp
                refine hK _ _ ?_
                clear hK K
                (try simp only [Act.put, List.getElem_toArray, List.getElem_cons_zero, List.getElem_cons_succ, List.setIfInBounds_toArray, List.set_cons_zero, List.set_cons_succ])
                refine wpAnyIn_take (i := 11) (oi := ({ dst := some 32, op := Go.Op.indexAddr 26 (Go.Operand.tmp 28) (Go.Operand.tmp 31), type := 0, pos := "wal.go:47", after := #[{ on := 7, ground := Go.Ground.data }, { on := 10, ground := Go.Ground.data }, { on := 6, ground := Go.Ground.guard }], guard := some (6, true) } : Go.Oper)) (v := ?v53) rfl rfl (by kernel_rfl) (by kernel_rfl) (by kernel_rfl) (fun _ _ _ h => h) ⟨Or.inl ⟨by rfl, ?hy53⟩, fun _ => rfl⟩ ?rest53
                case hy53 => (intro w; go_simp; (try with_reducible rfl))
                (try simp only [Act.put, List.getElem_toArray, List.getElem_cons_zero, List.getElem_cons_succ, List.setIfInBounds_toArray, List.set_cons_zero, List.set_cons_succ])
                refine wpAnyIn_take (i := 12) (oi := ({ dst := some 33, op := Go.Op.fieldAddr 24 (Go.Operand.tmp 32) 0, type := 0, pos := "wal.go:47", after := #[{ on := 11, ground := Go.Ground.data }, { on := 6, ground := Go.Ground.guard }], guard := some (6, true) } : Go.Oper)) (v := ?v54) rfl rfl (by kernel_rfl) (by kernel_rfl) (by kernel_rfl) (fun _ _ _ h => h) ⟨Or.inl ⟨by rfl, ?hy54⟩, fun _ => rfl⟩ ?rest54
                case hy54 => (intro w; go_simp; (try with_reducible rfl))
                (try simp only [Act.put, List.getElem_toArray, List.getElem_cons_zero, List.getElem_cons_succ, List.setIfInBounds_toArray, List.set_cons_zero, List.set_cons_succ])
                refine wpAnyIn_ready (rs := [13]) (by kernel_rfl) (by simp) ?_
                refine AllReadyIn.cons (o := ({ dst := some 34, op := Go.Op.load 2 (Go.Operand.tmp 33), type := 2, pos := "wal.go:47", after := #[{ on := 12, ground := Go.Ground.data }, { on := 6, ground := Go.Ground.guard }], guard := some (6, true) } : Go.Oper)) rfl (fun K hK => ?_) AllReadyIn.nil
                go_simp
                refine hK _ _ ?_
                clear hK K
                (try simp only [Act.put, List.getElem_toArray, List.getElem_cons_zero, List.getElem_cons_succ, List.setIfInBounds_toArray, List.set_cons_zero, List.set_cons_succ])
                refine wpAnyIn_take (i := 16) (oi := ({ dst := some 37, op := Go.Op.binOp Go.BinOp.geq 2 (Go.Operand.tmp 34) (Go.Operand.tmp 36) 2, type := 4, pos := "wal.go:47", after := #[{ on := 13, ground := Go.Ground.data }, { on := 15, ground := Go.Ground.data }, { on := 6, ground := Go.Ground.guard }], guard := some (6, true) } : Go.Oper)) (v := ?v55) rfl rfl (by kernel_rfl) (by kernel_rfl) (by kernel_rfl) (fun _ _ _ h => h) ⟨Or.inl ⟨by rfl, ?hy55⟩, fun _ => rfl⟩ ?rest55
                case hy55 => (intro w; go_simp; (try with_reducible rfl))
                (try simp only [Act.put, List.getElem_toArray, List.getElem_cons_zero, List.getElem_cons_succ, List.setIfInBounds_toArray, List.set_cons_zero, List.set_cons_succ])
                refine wpAnyIn_take (i := 17) (oi := ({ dst := some 38, op := Go.Op.pick (Go.Operand.tmp 27) (Go.Operand.tmp 37) (Go.Operand.const (Go.Value.bool false)), type := 4, pos := "wal.go:47", after := #[{ on := 6, ground := Go.Ground.data }, { on := 16, ground := Go.Ground.data }, { on := 2, ground := Go.Ground.guard }], guard := some (2, false) } : Go.Oper)) (v := ?v56) rfl rfl (by kernel_rfl) (by kernel_rfl) (by kernel_rfl) (fun _ _ _ h => h) ⟨Or.inl ⟨by rfl, ?hy56⟩, fun _ => rfl⟩ ?rest56
                case hy56 => (intro w; go_simp; (try with_reducible rfl))
                (try simp only [Act.put, List.getElem_toArray, List.getElem_cons_zero, List.getElem_cons_succ, List.setIfInBounds_toArray, List.set_cons_zero, List.set_cons_succ])
                refine wpAnyIn_take (i := 18) (oi := ({ dst := some 39, op := Go.Op.pick (Go.Operand.tmp 23) (Go.Operand.const (Go.Value.bool true)) (Go.Operand.tmp 38), type := 4, pos := "wal.go:47", after := #[{ on := 2, ground := Go.Ground.data }, { on := 17, ground := Go.Ground.data }], guard := none } : Go.Oper)) (v := ?v57) rfl rfl (by kernel_rfl) (by kernel_rfl) (by kernel_rfl) (fun _ _ _ h => h) ⟨Or.inl ⟨by rfl, ?hy57⟩, fun _ => rfl⟩ ?rest57
                case hy57 => (intro w; go_simp; (try with_reducible rfl))
                (try simp only [Act.put, List.getElem_toArray, List.getElem_cons_zero, List.getElem_cons_succ, List.setIfInBounds_toArray, List.set_cons_zero, List.set_cons_succ])
                refine wpAnyIn_done (by kernel_rfl) ?_ _
            case' more40 =>
              refine AllReadyIn.cons (o := ({ dst := some 36, op := Go.Op.load 2 (Go.Operand.tmp 35), type := 2, pos := "wal.go:47", after := #[{ on := 14, ground := Go.Ground.data }, { on := 6, ground := Go.Ground.guard }], guard := some (6, true) } : Go.Oper)) rfl (fun K hK => ?_) AllReadyIn.nil
              go_simp
              refine hK _ _ ?_
              clear hK K
              (try simp only [Act.put, List.getElem_toArray, List.getElem_cons_zero, List.getElem_cons_succ, List.setIfInBounds_toArray, List.set_cons_zero, List.set_cons_succ])
              refine wpAnyIn_ready (rs := [7, 8]) (by kernel_rfl) (by simp) ?_
              refine AllReadyIn.cons (o := ({ dst := some 28, op := Go.Op.load 26 (Go.Operand.tmp 5), type := 26, pos := "wal.go:47", after := #[{ on := 6, ground := Go.Ground.guard }], guard := some (6, true) } : Go.Oper)) rfl (fun K hK => ?one58) ?more58
              case' one58 =>
                go_simp
                refine hK _ _ ?_
                clear hK K
                (try simp only [Act.put, List.getElem_toArray, List.getElem_cons_zero, List.getElem_cons_succ, List.setIfInBounds_toArray, List.set_cons_zero, List.set_cons_succ])
                refine wpAnyIn_ready (rs := [8]) (by kernel_rfl) (by simp) ?_
                refine AllReadyIn.cons (o := ({ dst := some 29, op := Go.Op.load 26 (Go.Operand.tmp 5), type := 26, pos := "wal.go:47", after := #[{ on := 6, ground := Go.Ground.guard }], guard := some (6, true) } : Go.Oper)) rfl (fun K hK => ?_) AllReadyIn.nil
                go_simp
                refine hK _ _ ?_
                clear hK K
                (try simp only [Act.put, List.getElem_toArray, List.getElem_cons_zero, List.getElem_cons_succ, List.setIfInBounds_toArray, List.set_cons_zero, List.set_cons_succ])
                refine wpAnyIn_take (i := 9) (oi := ({ dst := some 30, op := Go.Op.call { callee := Go.Callee.builtin Go.Builtin.len, args := #[Go.Operand.tmp 29], argTypes := #[26] }, type := 3, pos := "wal.go:47", after := #[{ on := 8, ground := Go.Ground.data }, { on := 6, ground := Go.Ground.guard }], guard := some (6, true) } : Go.Oper)) (v := ?v59) rfl rfl (by kernel_rfl) (by kernel_rfl) (by kernel_rfl) (fun _ _ _ h => h) ⟨Or.inl ⟨by rfl, ?hy59⟩, fun _ => rfl⟩ ?rest59
                case hy59 => (intro w; go_simp; (try with_reducible rfl))
                (try simp only [Act.put, List.getElem_toArray, List.getElem_cons_zero, List.getElem_cons_succ, List.setIfInBounds_toArray, List.set_cons_zero, List.set_cons_succ])
                refine wpAnyIn_take (i := 10) (oi := ({ dst := some 31, op := Go.Op.binOp Go.BinOp.sub 3 (Go.Operand.tmp 30) (Go.Operand.const (Go.Value.int Go.IntKind.i64 1)) 3, type := 3, pos := "wal.go:47", after := #[{ on := 9, ground := Go.Ground.data }, { on := 6, ground := Go.Ground.guard }], guard := some (6, true) } : Go.Oper)) (v := ?v60) rfl rfl (by kernel_rfl) (by kernel_rfl) (by kernel_rfl) (fun _ _ _ h => h) ⟨Or.inl ⟨by rfl, ?hy60⟩, fun _ => rfl⟩ ?rest60
                case hy60 => (intro w; go_simp; (try with_reducible rfl))
                (try simp only [Act.put, List.getElem_toArray, List.getElem_cons_zero, List.getElem_cons_succ, List.setIfInBounds_toArray, List.set_cons_zero, List.set_cons_succ])
                refine wpAnyIn_take (i := 11) (oi := ({ dst := some 32, op := Go.Op.indexAddr 26 (Go.Operand.tmp 28) (Go.Operand.tmp 31), type := 0, pos := "wal.go:47", after := #[{ on := 7, ground := Go.Ground.data }, { on := 10, ground := Go.Ground.data }, { on := 6, ground := Go.Ground.guard }], guard := some (6, true) } : Go.Oper)) (v := ?v61) rfl rfl (by kernel_rfl) (by kernel_rfl) (by kernel_rfl) (fun _ _ _ h => h) ⟨Or.inl ⟨by rfl, ?hy61⟩, fun _ => rfl⟩ ?rest61
                case hy61 => (intro w; go_simp; (try with_reducible rfl))
                (try simp only [Act.put, List.getElem_toArray, List.getElem_cons_zero, List.getElem_cons_succ, List.setIfInBounds_toArray, List.set_cons_zero, List.set_cons_succ])
                refine wpAnyIn_take (i := 12) (oi := ({ dst := some 33, op := Go.Op.fieldAddr 24 (Go.Operand.tmp 32) 0, type := 0, pos := "wal.go:47", after := #[{ on := 11, ground := Go.Ground.data }, { on := 6, ground := Go.Ground.guard }], guard := some (6, true) } : Go.Oper)) (v := ?v62) rfl rfl (by kernel_rfl) (by kernel_rfl) (by kernel_rfl) (fun _ _ _ h => h) ⟨Or.inl ⟨by rfl, ?hy62⟩, fun _ => rfl⟩ ?rest62
                case hy62 => (intro w; go_simp; (try with_reducible rfl))
                (try simp only [Act.put, List.getElem_toArray, List.getElem_cons_zero, List.getElem_cons_succ, List.setIfInBounds_toArray, List.set_cons_zero, List.set_cons_succ])
                refine wpAnyIn_ready (rs := [13]) (by kernel_rfl) (by simp) ?_
                refine AllReadyIn.cons (o := ({ dst := some 34, op := Go.Op.load 2 (Go.Operand.tmp 33), type := 2, pos := "wal.go:47", after := #[{ on := 12, ground := Go.Ground.data }, { on := 6, ground := Go.Ground.guard }], guard := some (6, true) } : Go.Oper)) rfl (fun K hK => ?_) AllReadyIn.nil
                go_simp
                refine hK _ _ ?_
                clear hK K
                (try simp only [Act.put, List.getElem_toArray, List.getElem_cons_zero, List.getElem_cons_succ, List.setIfInBounds_toArray, List.set_cons_zero, List.set_cons_succ])
                refine wpAnyIn_take (i := 16) (oi := ({ dst := some 37, op := Go.Op.binOp Go.BinOp.geq 2 (Go.Operand.tmp 34) (Go.Operand.tmp 36) 2, type := 4, pos := "wal.go:47", after := #[{ on := 13, ground := Go.Ground.data }, { on := 15, ground := Go.Ground.data }, { on := 6, ground := Go.Ground.guard }], guard := some (6, true) } : Go.Oper)) (v := ?v63) rfl rfl (by kernel_rfl) (by kernel_rfl) (by kernel_rfl) (fun _ _ _ h => h) ⟨Or.inl ⟨by rfl, ?hy63⟩, fun _ => rfl⟩ ?rest63
                case hy63 => (intro w; go_simp; (try with_reducible rfl))
                (try simp only [Act.put, List.getElem_toArray, List.getElem_cons_zero, List.getElem_cons_succ, List.setIfInBounds_toArray, List.set_cons_zero, List.set_cons_succ])
                refine wpAnyIn_take (i := 17) (oi := ({ dst := some 38, op := Go.Op.pick (Go.Operand.tmp 27) (Go.Operand.tmp 37) (Go.Operand.const (Go.Value.bool false)), type := 4, pos := "wal.go:47", after := #[{ on := 6, ground := Go.Ground.data }, { on := 16, ground := Go.Ground.data }, { on := 2, ground := Go.Ground.guard }], guard := some (2, false) } : Go.Oper)) (v := ?v64) rfl rfl (by kernel_rfl) (by kernel_rfl) (by kernel_rfl) (fun _ _ _ h => h) ⟨Or.inl ⟨by rfl, ?hy64⟩, fun _ => rfl⟩ ?rest64
                case hy64 => (intro w; go_simp; (try with_reducible rfl))
                (try simp only [Act.put, List.getElem_toArray, List.getElem_cons_zero, List.getElem_cons_succ, List.setIfInBounds_toArray, List.set_cons_zero, List.set_cons_succ])
                refine wpAnyIn_take (i := 18) (oi := ({ dst := some 39, op := Go.Op.pick (Go.Operand.tmp 23) (Go.Operand.const (Go.Value.bool true)) (Go.Operand.tmp 38), type := 4, pos := "wal.go:47", after := #[{ on := 2, ground := Go.Ground.data }, { on := 17, ground := Go.Ground.data }], guard := none } : Go.Oper)) (v := ?v65) rfl rfl (by kernel_rfl) (by kernel_rfl) (by kernel_rfl) (fun _ _ _ h => h) ⟨Or.inl ⟨by rfl, ?hy65⟩, fun _ => rfl⟩ ?rest65
                case hy65 => (intro w; go_simp; (try with_reducible rfl))
                (try simp only [Act.put, List.getElem_toArray, List.getElem_cons_zero, List.getElem_cons_succ, List.setIfInBounds_toArray, List.set_cons_zero, List.set_cons_succ])
                refine wpAnyIn_done (by kernel_rfl) ?_ _
              case' more58 =>
                refine AllReadyIn.cons (o := ({ dst := some 29, op := Go.Op.load 26 (Go.Operand.tmp 5), type := 26, pos := "wal.go:47", after := #[{ on := 6, ground := Go.Ground.guard }], guard := some (6, true) } : Go.Oper)) rfl (fun K hK => ?_) AllReadyIn.nil
                go_simp
                refine hK _ _ ?_
                clear hK K
                (try simp only [Act.put, List.getElem_toArray, List.getElem_cons_zero, List.getElem_cons_succ, List.setIfInBounds_toArray, List.set_cons_zero, List.set_cons_succ])
                refine wpAnyIn_take (i := 9) (oi := ({ dst := some 30, op := Go.Op.call { callee := Go.Callee.builtin Go.Builtin.len, args := #[Go.Operand.tmp 29], argTypes := #[26] }, type := 3, pos := "wal.go:47", after := #[{ on := 8, ground := Go.Ground.data }, { on := 6, ground := Go.Ground.guard }], guard := some (6, true) } : Go.Oper)) (v := ?v66) rfl rfl (by kernel_rfl) (by kernel_rfl) (by kernel_rfl) (fun _ _ _ h => h) ⟨Or.inl ⟨by rfl, ?hy66⟩, fun _ => rfl⟩ ?rest66
                case hy66 => (intro w; go_simp; (try with_reducible rfl))
                (try simp only [Act.put, List.getElem_toArray, List.getElem_cons_zero, List.getElem_cons_succ, List.setIfInBounds_toArray, List.set_cons_zero, List.set_cons_succ])
                refine wpAnyIn_take (i := 10) (oi := ({ dst := some 31, op := Go.Op.binOp Go.BinOp.sub 3 (Go.Operand.tmp 30) (Go.Operand.const (Go.Value.int Go.IntKind.i64 1)) 3, type := 3, pos := "wal.go:47", after := #[{ on := 9, ground := Go.Ground.data }, { on := 6, ground := Go.Ground.guard }], guard := some (6, true) } : Go.Oper)) (v := ?v67) rfl rfl (by kernel_rfl) (by kernel_rfl) (by kernel_rfl) (fun _ _ _ h => h) ⟨Or.inl ⟨by rfl, ?hy67⟩, fun _ => rfl⟩ ?rest67
                case hy67 => (intro w; go_simp; (try with_reducible rfl))
                (try simp only [Act.put, List.getElem_toArray, List.getElem_cons_zero, List.getElem_cons_succ, List.setIfInBounds_toArray, List.set_cons_zero, List.set_cons_succ])
                refine wpAnyIn_ready (rs := [7]) (by kernel_rfl) (by simp) ?_
                refine AllReadyIn.cons (o := ({ dst := some 28, op := Go.Op.load 26 (Go.Operand.tmp 5), type := 26, pos := "wal.go:47", after := #[{ on := 6, ground := Go.Ground.guard }], guard := some (6, true) } : Go.Oper)) rfl (fun K hK => ?_) AllReadyIn.nil
                go_simp
                refine hK _ _ ?_
                clear hK K
                (try simp only [Act.put, List.getElem_toArray, List.getElem_cons_zero, List.getElem_cons_succ, List.setIfInBounds_toArray, List.set_cons_zero, List.set_cons_succ])
                refine wpAnyIn_take (i := 11) (oi := ({ dst := some 32, op := Go.Op.indexAddr 26 (Go.Operand.tmp 28) (Go.Operand.tmp 31), type := 0, pos := "wal.go:47", after := #[{ on := 7, ground := Go.Ground.data }, { on := 10, ground := Go.Ground.data }, { on := 6, ground := Go.Ground.guard }], guard := some (6, true) } : Go.Oper)) (v := ?v68) rfl rfl (by kernel_rfl) (by kernel_rfl) (by kernel_rfl) (fun _ _ _ h => h) ⟨Or.inl ⟨by rfl, ?hy68⟩, fun _ => rfl⟩ ?rest68
                case hy68 => (intro w; go_simp; (try with_reducible rfl))
                (try simp only [Act.put, List.getElem_toArray, List.getElem_cons_zero, List.getElem_cons_succ, List.setIfInBounds_toArray, List.set_cons_zero, List.set_cons_succ])
                refine wpAnyIn_take (i := 12) (oi := ({ dst := some 33, op := Go.Op.fieldAddr 24 (Go.Operand.tmp 32) 0, type := 0, pos := "wal.go:47", after := #[{ on := 11, ground := Go.Ground.data }, { on := 6, ground := Go.Ground.guard }], guard := some (6, true) } : Go.Oper)) (v := ?v69) rfl rfl (by kernel_rfl) (by kernel_rfl) (by kernel_rfl) (fun _ _ _ h => h) ⟨Or.inl ⟨by rfl, ?hy69⟩, fun _ => rfl⟩ ?rest69
                case hy69 => (intro w; go_simp; (try with_reducible rfl))
                (try simp only [Act.put, List.getElem_toArray, List.getElem_cons_zero, List.getElem_cons_succ, List.setIfInBounds_toArray, List.set_cons_zero, List.set_cons_succ])
                refine wpAnyIn_ready (rs := [13]) (by kernel_rfl) (by simp) ?_
                refine AllReadyIn.cons (o := ({ dst := some 34, op := Go.Op.load 2 (Go.Operand.tmp 33), type := 2, pos := "wal.go:47", after := #[{ on := 12, ground := Go.Ground.data }, { on := 6, ground := Go.Ground.guard }], guard := some (6, true) } : Go.Oper)) rfl (fun K hK => ?_) AllReadyIn.nil
                go_simp
                refine hK _ _ ?_
                clear hK K
                (try simp only [Act.put, List.getElem_toArray, List.getElem_cons_zero, List.getElem_cons_succ, List.setIfInBounds_toArray, List.set_cons_zero, List.set_cons_succ])
                refine wpAnyIn_take (i := 16) (oi := ({ dst := some 37, op := Go.Op.binOp Go.BinOp.geq 2 (Go.Operand.tmp 34) (Go.Operand.tmp 36) 2, type := 4, pos := "wal.go:47", after := #[{ on := 13, ground := Go.Ground.data }, { on := 15, ground := Go.Ground.data }, { on := 6, ground := Go.Ground.guard }], guard := some (6, true) } : Go.Oper)) (v := ?v70) rfl rfl (by kernel_rfl) (by kernel_rfl) (by kernel_rfl) (fun _ _ _ h => h) ⟨Or.inl ⟨by rfl, ?hy70⟩, fun _ => rfl⟩ ?rest70
                case hy70 => (intro w; go_simp; (try with_reducible rfl))
                (try simp only [Act.put, List.getElem_toArray, List.getElem_cons_zero, List.getElem_cons_succ, List.setIfInBounds_toArray, List.set_cons_zero, List.set_cons_succ])
                refine wpAnyIn_take (i := 17) (oi := ({ dst := some 38, op := Go.Op.pick (Go.Operand.tmp 27) (Go.Operand.tmp 37) (Go.Operand.const (Go.Value.bool false)), type := 4, pos := "wal.go:47", after := #[{ on := 6, ground := Go.Ground.data }, { on := 16, ground := Go.Ground.data }, { on := 2, ground := Go.Ground.guard }], guard := some (2, false) } : Go.Oper)) (v := ?v71) rfl rfl (by kernel_rfl) (by kernel_rfl) (by kernel_rfl) (fun _ _ _ h => h) ⟨Or.inl ⟨by rfl, ?hy71⟩, fun _ => rfl⟩ ?rest71
                case hy71 => (intro w; go_simp; (try with_reducible rfl))
                (try simp only [Act.put, List.getElem_toArray, List.getElem_cons_zero, List.getElem_cons_succ, List.setIfInBounds_toArray, List.set_cons_zero, List.set_cons_succ])
                refine wpAnyIn_take (i := 18) (oi := ({ dst := some 39, op := Go.Op.pick (Go.Operand.tmp 23) (Go.Operand.const (Go.Value.bool true)) (Go.Operand.tmp 38), type := 4, pos := "wal.go:47", after := #[{ on := 2, ground := Go.Ground.data }, { on := 17, ground := Go.Ground.data }], guard := none } : Go.Oper)) (v := ?v72) rfl rfl (by kernel_rfl) (by kernel_rfl) (by kernel_rfl) (fun _ _ _ h => h) ⟨Or.inl ⟨by rfl, ?hy72⟩, fun _ => rfl⟩ ?rest72
                case hy72 => (intro w; go_simp; (try with_reducible rfl))
                (try simp only [Act.put, List.getElem_toArray, List.getElem_cons_zero, List.getElem_cons_succ, List.setIfInBounds_toArray, List.set_cons_zero, List.set_cons_succ])
                refine wpAnyIn_done (by kernel_rfl) ?_ _
          all_goals
            gi_wp2
            obtain ⟨r1, r2⟩ := H3.out.halt (wa := wb.drew) (HXB.out.trans (by with_reducible (repeat (first | exact Ext.rfl_ _ | assumption | refine Ext.drew ?_ | refine Ext.drewN ?_ _ | refine Ext.alloc ?_ _ | refine Ext.trans ?_ (by assumption))))) HGET.out (.inr ⟨y, HRDP.out, HF.out⟩) (by rw [HTK.out])
            exact ⟨⟨rfl, _, _, r1⟩, r2⟩
        · have hgd : decide (y.idx ≤ z.idx) = false := decide_eq_false hge
          have HBEH := Lib.hid (show behW l y = true from by rw [HBL.out]; exact decide_eq_true (by omega))
          clear hge
          refine wpIn_region_rnd (by kernel_rfl) (by kernel_rfl) rfl ?_
          (try (change wpAnyIn _ _ _ _ _ _ _ _ _ (World.drew _)))
          refine wpAnyIn_take (i := 0) (oi := ({ dst := some 21, op := Go.Op.move (Go.Operand.tmp 11), type := 4, pos := "wal.go:47", after := #[], guard := none } : Go.Oper)) (v := ?v73) rfl rfl (by kernel_rfl) (by kernel_rfl) (by kernel_rfl) (fun _ _ _ h => h) ⟨Or.inl ⟨by rfl, ?hy73⟩, fun _ => rfl⟩ ?rest73
          case hy73 => (intro w; go_simp; (try with_reducible rfl))
          (try simp only [Act.put, List.getElem_toArray, List.getElem_cons_zero, List.getElem_cons_succ, List.setIfInBounds_toArray, List.set_cons_zero, List.set_cons_succ])
          refine wpAnyIn_take (i := 1) (oi := ({ dst := some 22, op := Go.Op.unOp Go.UnOp.not 4 (Go.Operand.tmp 21), type := 4, pos := "wal.go:47", after := #[{ on := 0, ground := Go.Ground.data }], guard := none } : Go.Oper)) (v := ?v74) rfl rfl (by kernel_rfl) (by kernel_rfl) (by kernel_rfl) (fun _ _ _ h => h) ⟨Or.inl ⟨by rfl, ?hy74⟩, fun _ => rfl⟩ ?rest74
          case hy74 => (intro w; go_simp; (try with_reducible rfl))
          (try simp only [Act.put, List.getElem_toArray, List.getElem_cons_zero, List.getElem_cons_succ, List.setIfInBounds_toArray, List.set_cons_zero, List.set_cons_succ])
          refine wpAnyIn_take (i := 2) (oi := ({ dst := some 23, op := Go.Op.move (Go.Operand.tmp 22), type := 4, pos := "wal.go:47", after := #[{ on := 1, ground := Go.Ground.data }], guard := none } : Go.Oper)) (v := ?v75) rfl rfl (by kernel_rfl) (by kernel_rfl) (by kernel_rfl) (fun _ _ _ h => h) ⟨Or.inl ⟨by rfl, ?hy75⟩, fun _ => rfl⟩ ?rest75
          case hy75 => (intro w; go_simp; (try with_reducible rfl))
          (try simp only [Act.put, List.getElem_toArray, List.getElem_cons_zero, List.getElem_cons_succ, List.setIfInBounds_toArray, List.set_cons_zero, List.set_cons_succ])
          refine wpAnyIn_ready (rs := [3]) (by kernel_rfl) (by simp) ?_
          refine AllReadyIn.cons (o := ({ dst := some 24, op := Go.Op.load 26 (Go.Operand.tmp 5), type := 26, pos := "wal.go:47", after := #[{ on := 2, ground := Go.Ground.guard }], guard := some (2, false) } : Go.Oper)) rfl (fun K hK => ?_) AllReadyIn.nil
          go_simp
          refine hK _ _ ?_
          clear hK K
          (try simp only [Act.put, List.getElem_toArray, List.getElem_cons_zero, List.getElem_cons_succ, List.setIfInBounds_toArray, List.set_cons_zero, List.set_cons_succ])
          refine wpAnyIn_take (i := 4) (oi := ({ dst := some 25, op := Go.Op.call { callee := Go.Callee.builtin Go.Builtin.len, args := #[Go.Operand.tmp 24], argTypes := #[26] }, type := 3, pos := "wal.go:47", after := #[{ on := 3, ground := Go.Ground.data }, { on := 2, ground := Go.Ground.guard }], guard := some (2, false) } : Go.Oper)) (v := ?v76) rfl rfl (by kernel_rfl) (by kernel_rfl) (by kernel_rfl) (fun _ _ _ h => h) ⟨Or.inl ⟨by rfl, ?hy76⟩, fun _ => rfl⟩ ?rest76
          case hy76 => (intro w; go_simp; (try with_reducible rfl))
          (try simp only [Act.put, List.getElem_toArray, List.getElem_cons_zero, List.getElem_cons_succ, List.setIfInBounds_toArray, List.set_cons_zero, List.set_cons_succ])
          refine wpAnyIn_take (i := 5) (oi := ({ dst := some 26, op := Go.Op.binOp Go.BinOp.gtr 3 (Go.Operand.tmp 25) (Go.Operand.const (Go.Value.int Go.IntKind.i64 0)) 3, type := 4, pos := "wal.go:47", after := #[{ on := 4, ground := Go.Ground.data }, { on := 2, ground := Go.Ground.guard }], guard := some (2, false) } : Go.Oper)) (v := ?v77) rfl rfl (by kernel_rfl) (by kernel_rfl) (by kernel_rfl) (fun _ _ _ h => h) ⟨Or.inl ⟨by rfl, ?hy77⟩, fun _ => rfl⟩ ?rest77
          case hy77 => (intro w; go_simp; (try with_reducible rfl))
          (try simp only [Act.put, List.getElem_toArray, List.getElem_cons_zero, List.getElem_cons_succ, List.setIfInBounds_toArray, List.set_cons_zero, List.set_cons_succ])
          refine wpAnyIn_take (i := 6) (oi := ({ dst := some 27, op := Go.Op.move (Go.Operand.tmp 26), type := 4, pos := "wal.go:47", after := #[{ on := 5, ground := Go.Ground.data }, { on := 2, ground := Go.Ground.chain }, { on := 2, ground := Go.Ground.guard }], guard := some (2, false) } : Go.Oper)) (v := ?v78) rfl rfl (by kernel_rfl) (by kernel_rfl) (by kernel_rfl) (fun _ _ _ h => h) ⟨Or.inl ⟨by rfl, ?hy78⟩, fun _ => rfl⟩ ?rest78
          case hy78 => (intro w; go_simp; (try with_reducible rfl))
          (try simp only [Act.put, List.getElem_toArray, List.getElem_cons_zero, List.getElem_cons_succ, List.setIfInBounds_toArray, List.set_cons_zero, List.set_cons_succ])
          refine wpAnyIn_take (i := 14) (oi := ({ dst := some 35, op := Go.Op.fieldAddr 24 (Go.Operand.tmp 10) 0, type := 0, pos := "wal.go:47", after := #[{ on := 6, ground := Go.Ground.guard }], guard := some (6, true) } : Go.Oper)) (v := ?v79) rfl rfl (by kernel_rfl) (by kernel_rfl) (by kernel_rfl) (fun _ _ _ h => h) ⟨Or.inl ⟨by rfl, ?hy79⟩, fun _ => rfl⟩ ?rest79
          case hy79 => (intro w; go_simp; (try with_reducible rfl))
          (try simp only [Act.put, List.getElem_toArray, List.getElem_cons_zero, List.getElem_cons_succ, List.setIfInBounds_toArray, List.set_cons_zero, List.set_cons_succ])
          refine wpAnyIn_ready (rs := [7, 8, 15]) (by kernel_rfl) (by simp) ?_
          refine AllReadyIn.cons (o := ({ dst := some 28, op := Go.Op.load 26 (Go.Operand.tmp 5), type := 26, pos := "wal.go:47", after := #[{ on := 6, ground := Go.Ground.guard }], guard := some (6, true) } : Go.Oper)) rfl (fun K hK => ?one80) ?more80
          case' one80 =>
            go_simp
            refine hK _ _ ?_
            clear hK K
            (try simp only [Act.put, List.getElem_toArray, List.getElem_cons_zero, List.getElem_cons_succ, List.setIfInBounds_toArray, List.set_cons_zero, List.set_cons_succ])
            refine wpAnyIn_ready (rs := [8, 15]) (by kernel_rfl) (by simp) ?_
            refine AllReadyIn.cons (o := ({ dst := some 29, op := Go.Op.load 26 (Go.Operand.tmp 5), type := 26, pos := "wal.go:47", after := #[{ on := 6, ground := Go.Ground.guard }], guard := some (6, true) } : Go.Oper)) rfl (fun K hK => ?one81) ?more81
            case' one81 =>
              go_simp
              refine hK _ _ ?_
              clear hK K
              (try simp only [Act.put, List.getElem_toArray, List.getElem_cons_zero, List.getElem_cons_succ, List.setIfInBounds_toArray, List.set_cons_zero, List.set_cons_succ])
              refine wpAnyIn_take (i := 9) (oi := ({ dst := some 30, op := Go.Op.call { callee := Go.Callee.builtin Go.Builtin.len, args := #[Go.Operand.tmp 29], argTypes := #[26] }, type := 3, pos := "wal.go:47", after := #[{ on := 8, ground := Go.Ground.data }, { on := 6, ground := Go.Ground.guard }], guard := some (6, true) } : Go.Oper)) (v := ?v82) rfl rfl (by kernel_rfl) (by kernel_rfl) (by kernel_rfl) (fun _ _ _ h => h) ⟨Or.inl ⟨by rfl, ?hy82⟩, fun _ => rfl⟩ ?rest82
              case hy82 => (intro w; go_simp; (try with_reducible rfl))
              (try simp only [Act.put, List.getElem_toArray, List.getElem_cons_zero, List.getElem_cons_succ, List.setIfInBounds_toArray, List.set_cons_zero, List.set_cons_succ])
              refine wpAnyIn_take (i := 10) (oi := ({ dst := some 31, op := Go.Op.binOp Go.BinOp.sub 3 (Go.Operand.tmp 30) (Go.Operand.const (Go.Value.int Go.IntKind.i64 1)) 3, type := 3, pos := "wal.go:47", after := #[{ on := 9, ground := Go.Ground.data }, { on := 6, ground := Go.Ground.guard }], guard := some (6, true) } : Go.Oper)) (v := ?v83) rfl rfl (by kernel_rfl) (by kernel_rfl) (by kernel_rfl) (fun _ _ _ h => h) ⟨Or.inl ⟨by rfl, ?hy83⟩, fun _ => rfl⟩ ?rest83
              case hy83 => (intro w; go_simp; (try with_reducible rfl))
              (try simp only [Act.put, List.getElem_toArray, List.getElem_cons_zero, List.getElem_cons_succ, List.setIfInBounds_toArray, List.set_cons_zero, List.set_cons_succ])
              refine wpAnyIn_take (i := 11) (oi := ({ dst := some 32, op := Go.Op.indexAddr 26 (Go.Operand.tmp 28) (Go.Operand.tmp 31), type := 0, pos := "wal.go:47", after := #[{ on := 7, ground := Go.Ground.data }, { on := 10, ground := Go.Ground.data }, { on := 6, ground := Go.Ground.guard }], guard := some (6, true) } : Go.Oper)) (v := ?v84) rfl rfl (by kernel_rfl) (by kernel_rfl) (by kernel_rfl) (fun _ _ _ h => h) ⟨Or.inl ⟨by rfl, ?hy84⟩, fun _ => rfl⟩ ?rest84
              case hy84 => (intro w; go_simp; (try with_reducible rfl))
              (try simp only [Act.put, List.getElem_toArray, List.getElem_cons_zero, List.getElem_cons_succ, List.setIfInBounds_toArray, List.set_cons_zero, List.set_cons_succ])
              refine wpAnyIn_take (i := 12) (oi := ({ dst := some 33, op := Go.Op.fieldAddr 24 (Go.Operand.tmp 32) 0, type := 0, pos := "wal.go:47", after := #[{ on := 11, ground := Go.Ground.data }, { on := 6, ground := Go.Ground.guard }], guard := some (6, true) } : Go.Oper)) (v := ?v85) rfl rfl (by kernel_rfl) (by kernel_rfl) (by kernel_rfl) (fun _ _ _ h => h) ⟨Or.inl ⟨by rfl, ?hy85⟩, fun _ => rfl⟩ ?rest85
              case hy85 => (intro w; go_simp; (try with_reducible rfl))
              (try simp only [Act.put, List.getElem_toArray, List.getElem_cons_zero, List.getElem_cons_succ, List.setIfInBounds_toArray, List.set_cons_zero, List.set_cons_succ])
              refine wpAnyIn_ready (rs := [13, 15]) (by kernel_rfl) (by simp) ?_
              refine AllReadyIn.cons (o := ({ dst := some 34, op := Go.Op.load 2 (Go.Operand.tmp 33), type := 2, pos := "wal.go:47", after := #[{ on := 12, ground := Go.Ground.data }, { on := 6, ground := Go.Ground.guard }], guard := some (6, true) } : Go.Oper)) rfl (fun K hK => ?one86) ?more86
              case' one86 =>
                go_simp
                refine hK _ _ ?_
                clear hK K
                (try simp only [Act.put, List.getElem_toArray, List.getElem_cons_zero, List.getElem_cons_succ, List.setIfInBounds_toArray, List.set_cons_zero, List.set_cons_succ])
                refine wpAnyIn_ready (rs := [15]) (by kernel_rfl) (by simp) ?_
                refine AllReadyIn.cons (o := ({ dst := some 36, op := Go.Op.load 2 (Go.Operand.tmp 35), type := 2, pos := "wal.go:47", after := #[{ on := 14, ground := Go.Ground.data }, { on := 6, ground := Go.Ground.guard }], guard := some (6, true) } : Go.Oper)) rfl (fun K hK => ?_) AllReadyIn.nil
                go_simp
                refine hK _ _ ?_
                clear hK K
                (try simp only [Act.put, List.getElem_toArray, List.getElem_cons_zero, List.getElem_cons_succ, List.setIfInBounds_toArray, List.set_cons_zero, List.set_cons_succ])
                refine wpAnyIn_take (i := 16) (oi := ({ dst := some 37, op := Go.Op.binOp Go.BinOp.geq 2 (Go.Operand.tmp 34) (Go.Operand.tmp 36) 2, type := 4, pos := "wal.go:47", after := #[{ on := 13, ground := Go.Ground.data }, { on := 15, ground := Go.Ground.data }, { on := 6, ground := Go.Ground.guard }], guard := some (6, true) } : Go.Oper)) (v := ?v87) rfl rfl (by kernel_rfl) (by kernel_rfl) (by kernel_rfl) (fun _ _ _ h => h) ⟨Or.inl ⟨by rfl, ?hy87⟩, fun _ => rfl⟩ ?rest87
                case hy87 => (intro w; go_simp; (try with_reducible rfl))
                (try simp only [Act.put, List.getElem_toArray, List.getElem_cons_zero, List.getElem_cons_succ, List.setIfInBounds_toArray, List.set_cons_zero, List.set_cons_succ])
                refine wpAnyIn_take (i := 17) (oi := ({ dst := some 38, op := Go.Op.pick (Go.Operand.tmp 27) (Go.Operand.tmp 37) (Go.Operand.const (Go.Value.bool false)), type := 4, pos := "wal.go:47", after := #[{ on := 6, ground := Go.Ground.data }, { on := 16, ground := Go.Ground.data }, { on := 2, ground := Go.Ground.guard }], guard := some (2, false) } : Go.Oper)) (v := ?v88) rfl rfl (by kernel_rfl) (by kernel_rfl) (by kernel_rfl) (fun _ _ _ h => h) ⟨Or.inl ⟨by rfl, ?hy88⟩, fun _ => rfl⟩ ?rest88
                case hy88 => (intro w; go_simp; (try with_reducible rfl))
                (try simp only [Act.put, List.getElem_toArray, List.getElem_cons_zero, List.getElem_cons_succ, List.setIfInBounds_toArray, List.set_cons_zero, List.set_cons_succ])
                refine wpAnyIn_take (i := 18) (oi := ({ dst := some 39, op := Go.Op.pick (Go.Operand.tmp 23) (Go.Operand.const (Go.Value.bool true)) (Go.Operand.tmp 38), type := 4, pos := "wal.go:47", after := #[{ on := 2, ground := Go.Ground.data }, { on := 17, ground := Go.Ground.data }], guard := none } : Go.Oper)) (v := ?v89) rfl rfl (by kernel_rfl) (by kernel_rfl) (by kernel_rfl) (fun _ _ _ h => h) ⟨Or.inl ⟨by rfl, ?hy89⟩, fun _ => rfl⟩ ?rest89
                case hy89 => (intro w; go_simp; (try with_reducible rfl))
                (try simp only [Act.put, List.getElem_toArray, List.getElem_cons_zero, List.getElem_cons_succ, List.setIfInBounds_toArray, List.set_cons_zero, List.set_cons_succ])
                refine wpAnyIn_done (by kernel_rfl) ?_ _
              case' more86 =>
                refine AllReadyIn.cons (o := ({ dst := some 36, op := Go.Op.load 2 (Go.Operand.tmp 35), type := 2, pos := "wal.go:47", after := #[{ on := 14, ground := Go.Ground.data }, { on := 6, ground := Go.Ground.guard }], guard := some (6, true) } : Go.Oper)) rfl (fun K hK => ?_) AllReadyIn.nil
                go_simp
                refine hK _ _ ?_
                clear hK K
                (try simp only [Act.put, List.getElem_toArray, List.getElem_cons_zero, List.getElem_cons_succ, List.setIfInBounds_toArray, List.set_cons_zero, List.set_cons_succ])
                refine wpAnyIn_ready (rs := [13]) (by kernel_rfl) (by simp) ?_
                refine AllReadyIn.cons (o := ({ dst := some 34, op := Go.Op.load 2 (Go.Operand.tmp 33), type := 2, pos := "wal.go:47", after := #[{ on := 12, ground := Go.Ground.data }, { on := 6, ground := Go.Ground.guard }], guard := some (6, true) } : Go.Oper)) rfl (fun K hK => ?_) AllReadyIn.nil
                go_simp
                refine hK _ _ ?_
                clear hK K
                (try simp only [Act.put, List.getElem_toArray, List.getElem_cons_zero, List.getElem_cons_succ, List.setIfInBounds_toArray, List.set_cons_zero, List.set_cons_succ])
                refine wpAnyIn_take (i := 16) (oi := ({ dst := some 37, op := Go.Op.binOp Go.BinOp.geq 2 (Go.Operand.tmp 34) (Go.Operand.tmp 36) 2, type := 4, pos := "wal.go:47", after := #[{ on := 13, ground := Go.Ground.data }, { on := 15, ground := Go.Ground.data }, { on := 6, ground := Go.Ground.guard }], guard := some (6, true) } : Go.Oper)) (v := ?v90) rfl rfl (by kernel_rfl) (by kernel_rfl) (by kernel_rfl) (fun _ _ _ h => h) ⟨Or.inl ⟨by rfl, ?hy90⟩, fun _ => rfl⟩ ?rest90
                case hy90 => (intro w; go_simp; (try with_reducible rfl))
                (try simp only [Act.put, List.getElem_toArray, List.getElem_cons_zero, List.getElem_cons_succ, List.setIfInBounds_toArray, List.set_cons_zero, List.set_cons_succ])
                refine wpAnyIn_take (i := 17) (oi := ({ dst := some 38, op := Go.Op.pick (Go.Operand.tmp 27) (Go.Operand.tmp 37) (Go.Operand.const (Go.Value.bool false)), type := 4, pos := "wal.go:47", after := #[{ on := 6, ground := Go.Ground.data }, { on := 16, ground := Go.Ground.data }, { on := 2, ground := Go.Ground.guard }], guard := some (2, false) } : Go.Oper)) (v := ?v91) rfl rfl (by kernel_rfl) (by kernel_rfl) (by kernel_rfl) (fun _ _ _ h => h) ⟨Or.inl ⟨by rfl, ?hy91⟩, fun _ => rfl⟩ ?rest91
                case hy91 => (intro w; go_simp; (try with_reducible rfl))
                (try simp only [Act.put, List.getElem_toArray, List.getElem_cons_zero, List.getElem_cons_succ, List.setIfInBounds_toArray, List.set_cons_zero, List.set_cons_succ])
                refine wpAnyIn_take (i := 18) (oi := ({ dst := some 39, op := Go.Op.pick (Go.Operand.tmp 23) (Go.Operand.const (Go.Value.bool true)) (Go.Operand.tmp 38), type := 4, pos := "wal.go:47", after := #[{ on := 2, ground := Go.Ground.data }, { on := 17, ground := Go.Ground.data }], guard := none } : Go.Oper)) (v := ?v92) rfl rfl (by kernel_rfl) (by kernel_rfl) (by kernel_rfl) (fun _ _ _ h => h) ⟨Or.inl ⟨by rfl, ?hy92⟩, fun _ => rfl⟩ ?rest92
                case hy92 => (intro w; go_simp; (try with_reducible rfl))
                (try simp only [Act.put, List.getElem_toArray, List.getElem_cons_zero, List.getElem_cons_succ, List.setIfInBounds_toArray, List.set_cons_zero, List.set_cons_succ])
                refine wpAnyIn_done (by kernel_rfl) ?_ _
            case' more81 =>
              refine AllReadyIn.cons (o := ({ dst := some 36, op := Go.Op.load 2 (Go.Operand.tmp 35), type := 2, pos := "wal.go:47", after := #[{ on := 14, ground := Go.Ground.data }, { on := 6, ground := Go.Ground.guard }], guard := some (6, true) } : Go.Oper)) rfl (fun K hK => ?_) AllReadyIn.nil
              go_simp
              refine hK _ _ ?_
              clear hK K
              (try simp only [Act.put, List.getElem_toArray, List.getElem_cons_zero, List.getElem_cons_succ, List.setIfInBounds_toArray, List.set_cons_zero, List.set_cons_succ])
              refine wpAnyIn_ready (rs := [8]) (by kernel_rfl) (by simp) ?_
              refine AllReadyIn.cons (o := ({ dst := some 29, op := Go.Op.load 26 (Go.Operand.tmp 5), type := 26, pos := "wal.go:47", after := #[{ on := 6, ground := Go.Ground.guard }], guard := some (6, true) } : Go.Oper)) rfl (fun K hK => ?_) AllReadyIn.nil
              go_simp
              refine hK _ _ ?_
              clear hK K
              (try simp only [Act.put, List.getElem_toArray, List.getElem_cons_zero, List.getElem_cons_succ, List.setIfInBounds_toArray, List.set_cons_zero, List.set_cons_succ])
              refine wpAnyIn_take (i := 9) (oi := ({ dst := some 30, op := Go.Op.call { callee := Go.Callee.builtin Go.Builtin.len, args := #[Go.Operand.tmp 29], argTypes := #[26] }, type := 3, pos := "wal.go:47", after := #[{ on := 8, ground := Go.Ground.data }, { on := 6, ground := Go.Ground.guard }], guard := some (6, true) } : Go.Oper)) (v := ?v93) rfl rfl (by kernel_rfl) (by kernel_rfl) (by kernel_rfl) (fun _ _ _ h => h) ⟨Or.inl ⟨by rfl, ?hy93⟩, fun _ => rfl⟩ ?rest93
              case hy93 => (intro w; go_simp; (try with_reducible rfl))
              (try simp only [Act.put, List.getElem_toArray, List.getElem_cons_zero, List.getElem_cons_succ, List.setIfInBounds_toArray, List.set_cons_zero, List.set_cons_succ])
              refine wpAnyIn_take (i := 10) (oi := ({ dst := some 31, op := Go.Op.binOp Go.BinOp.sub 3 (Go.Operand.tmp 30) (Go.Operand.const (Go.Value.int Go.IntKind.i64 1)) 3, type := 3, pos := "wal.go:47", after := #[{ on := 9, ground := Go.Ground.data }, { on := 6, ground := Go.Ground.guard }], guard := some (6, true) } : Go.Oper)) (v := ?v94) rfl rfl (by kernel_rfl) (by kernel_rfl) (by kernel_rfl) (fun _ _ _ h => h) ⟨Or.inl ⟨by rfl, ?hy94⟩, fun _ => rfl⟩ ?rest94
              case hy94 => (intro w; go_simp; (try with_reducible rfl))
              (try simp only [Act.put, List.getElem_toArray, List.getElem_cons_zero, List.getElem_cons_succ, List.setIfInBounds_toArray, List.set_cons_zero, List.set_cons_succ])
              refine wpAnyIn_take (i := 11) (oi := ({ dst := some 32, op := Go.Op.indexAddr 26 (Go.Operand.tmp 28) (Go.Operand.tmp 31), type := 0, pos := "wal.go:47", after := #[{ on := 7, ground := Go.Ground.data }, { on := 10, ground := Go.Ground.data }, { on := 6, ground := Go.Ground.guard }], guard := some (6, true) } : Go.Oper)) (v := ?v95) rfl rfl (by kernel_rfl) (by kernel_rfl) (by kernel_rfl) (fun _ _ _ h => h) ⟨Or.inl ⟨by rfl, ?hy95⟩, fun _ => rfl⟩ ?rest95
              case hy95 => (intro w; go_simp; (try with_reducible rfl))
              (try simp only [Act.put, List.getElem_toArray, List.getElem_cons_zero, List.getElem_cons_succ, List.setIfInBounds_toArray, List.set_cons_zero, List.set_cons_succ])
              refine wpAnyIn_take (i := 12) (oi := ({ dst := some 33, op := Go.Op.fieldAddr 24 (Go.Operand.tmp 32) 0, type := 0, pos := "wal.go:47", after := #[{ on := 11, ground := Go.Ground.data }, { on := 6, ground := Go.Ground.guard }], guard := some (6, true) } : Go.Oper)) (v := ?v96) rfl rfl (by kernel_rfl) (by kernel_rfl) (by kernel_rfl) (fun _ _ _ h => h) ⟨Or.inl ⟨by rfl, ?hy96⟩, fun _ => rfl⟩ ?rest96
              case hy96 => (intro w; go_simp; (try with_reducible rfl))
              (try simp only [Act.put, List.getElem_toArray, List.getElem_cons_zero, List.getElem_cons_succ, List.setIfInBounds_toArray, List.set_cons_zero, List.set_cons_succ])
              refine wpAnyIn_ready (rs := [13]) (by kernel_rfl) (by simp) ?_
              refine AllReadyIn.cons (o := ({ dst := some 34, op := Go.Op.load 2 (Go.Operand.tmp 33), type := 2, pos := "wal.go:47", after := #[{ on := 12, ground := Go.Ground.data }, { on := 6, ground := Go.Ground.guard }], guard := some (6, true) } : Go.Oper)) rfl (fun K hK => ?_) AllReadyIn.nil
              go_simp
              refine hK _ _ ?_
              clear hK K
              (try simp only [Act.put, List.getElem_toArray, List.getElem_cons_zero, List.getElem_cons_succ, List.setIfInBounds_toArray, List.set_cons_zero, List.set_cons_succ])
              refine wpAnyIn_take (i := 16) (oi := ({ dst := some 37, op := Go.Op.binOp Go.BinOp.geq 2 (Go.Operand.tmp 34) (Go.Operand.tmp 36) 2, type := 4, pos := "wal.go:47", after := #[{ on := 13, ground := Go.Ground.data }, { on := 15, ground := Go.Ground.data }, { on := 6, ground := Go.Ground.guard }], guard := some (6, true) } : Go.Oper)) (v := ?v97) rfl rfl (by kernel_rfl) (by kernel_rfl) (by kernel_rfl) (fun _ _ _ h => h) ⟨Or.inl ⟨by rfl, ?hy97⟩, fun _ => rfl⟩ ?rest97
              case hy97 => (intro w; go_simp; (try with_reducible rfl))
              (try simp only [Act.put, List.getElem_toArray, List.getElem_cons_zero, List.getElem_cons_succ, List.setIfInBounds_toArray, List.set_cons_zero, List.set_cons_succ])
              refine wpAnyIn_take (i := 17) (oi := ({ dst := some 38, op := Go.Op.pick (Go.Operand.tmp 27) (Go.Operand.tmp 37) (Go.Operand.const (Go.Value.bool false)), type := 4, pos := "wal.go:47", after := #[{ on := 6, ground := Go.Ground.data }, { on := 16, ground := Go.Ground.data }, { on := 2, ground := Go.Ground.guard }], guard := some (2, false) } : Go.Oper)) (v := ?v98) rfl rfl (by kernel_rfl) (by kernel_rfl) (by kernel_rfl) (fun _ _ _ h => h) ⟨Or.inl ⟨by rfl, ?hy98⟩, fun _ => rfl⟩ ?rest98
              case hy98 => (intro w; go_simp; (try with_reducible rfl))
              (try simp only [Act.put, List.getElem_toArray, List.getElem_cons_zero, List.getElem_cons_succ, List.setIfInBounds_toArray, List.set_cons_zero, List.set_cons_succ])
              refine wpAnyIn_take (i := 18) (oi := ({ dst := some 39, op := Go.Op.pick (Go.Operand.tmp 23) (Go.Operand.const (Go.Value.bool true)) (Go.Operand.tmp 38), type := 4, pos := "wal.go:47", after := #[{ on := 2, ground := Go.Ground.data }, { on := 17, ground := Go.Ground.data }], guard := none } : Go.Oper)) (v := ?v99) rfl rfl (by kernel_rfl) (by kernel_rfl) (by kernel_rfl) (fun _ _ _ h => h) ⟨Or.inl ⟨by rfl, ?hy99⟩, fun _ => rfl⟩ ?rest99
              case hy99 => (intro w; go_simp; (try with_reducible rfl))
              (try simp only [Act.put, List.getElem_toArray, List.getElem_cons_zero, List.getElem_cons_succ, List.setIfInBounds_toArray, List.set_cons_zero, List.set_cons_succ])
              refine wpAnyIn_done (by kernel_rfl) ?_ _
          case' more80 =>
            refine AllReadyIn.cons (o := ({ dst := some 29, op := Go.Op.load 26 (Go.Operand.tmp 5), type := 26, pos := "wal.go:47", after := #[{ on := 6, ground := Go.Ground.guard }], guard := some (6, true) } : Go.Oper)) rfl (fun K hK => ?one100) ?more100
            case' one100 =>
              go_simp
              refine hK _ _ ?_
              clear hK K
              (try simp only [Act.put, List.getElem_toArray, List.getElem_cons_zero, List.getElem_cons_succ, List.setIfInBounds_toArray, List.set_cons_zero, List.set_cons_succ])
              refine wpAnyIn_take (i := 9) (oi := ({ dst := some 30, op := Go.Op.call { callee := Go.Callee.builtin Go.Builtin.len, args := #[Go.Operand.tmp 29], argTypes := #[26] }, type := 3, pos := "wal.go:47", after := #[{ on := 8, ground := Go.Ground.data }, { on := 6, ground := Go.Ground.guard }], guard := some (6, true) } : Go.Oper)) (v := ?v101) rfl rfl (by kernel_rfl) (by kernel_rfl) (by kernel_rfl) (fun _ _ _ h => h) ⟨Or.inl ⟨by rfl, ?hy101⟩, fun _ => rfl⟩ ?rest101
              case hy101 => (intro w; go_simp; (try with_reducible rfl))
              (try simp only [Act.put, List.getElem_toArray, List.getElem_cons_zero, List.getElem_cons_succ, List.setIfInBounds_toArray, List.set_cons_zero, List.set_cons_succ])
              refine wpAnyIn_take (i := 10) (oi := ({ dst := some 31, op := Go.Op.binOp Go.BinOp.sub 3 (Go.Operand.tmp 30) (Go.Operand.const (Go.Value.int Go.IntKind.i64 1)) 3, type := 3, pos := "wal.go:47", after := #[{ on := 9, ground := Go.Ground.data }, { on := 6, ground := Go.Ground.guard }], guard := some (6, true) } : Go.Oper)) (v := ?v102) rfl rfl (by kernel_rfl) (by kernel_rfl) (by kernel_rfl) (fun _ _ _ h => h) ⟨Or.inl ⟨by rfl, ?hy102⟩, fun _ => rfl⟩ ?rest102
              case hy102 => (intro w; go_simp; (try with_reducible rfl))
              (try simp only [Act.put, List.getElem_toArray, List.getElem_cons_zero, List.getElem_cons_succ, List.setIfInBounds_toArray, List.set_cons_zero, List.set_cons_succ])
              refine wpAnyIn_ready (rs := [7, 15]) (by kernel_rfl) (by simp) ?_
              refine AllReadyIn.cons (o := ({ dst := some 28, op := Go.Op.load 26 (Go.Operand.tmp 5), type := 26, pos := "wal.go:47", after := #[{ on := 6, ground := Go.Ground.guard }], guard := some (6, true) } : Go.Oper)) rfl (fun K hK => ?one103) ?more103
              case' one103 =>
                go_simp
                refine hK _ _ ?_
                clear hK K
                (try simp only [Act.put, List.getElem_toArray, List.getElem_cons_zero, List.getElem_cons_succ, List.setIfInBounds_toArray, List.set_cons_zero, List.set_cons_succ])
                refine wpAnyIn_take (i := 11) (oi := ({ dst := some 32, op := Go.Op.indexAddr 26 (Go.Operand.tmp 28) (Go.Operand.tmp 31), type := 0, pos := "wal.go:47", after := #[{ on := 7, ground := Go.Ground.data }, { on := 10, ground := Go.Ground.data }, { on := 6, ground := Go.Ground.guard }], guard := some (6, true) } : Go.Oper)) (v := ?v104) rfl rfl (by kernel_rfl) (by kernel_rfl) (by kernel_rfl) (fun _ _ _ h => h) ⟨Or.inl ⟨by rfl, ?hy104⟩, fun _ => rfl⟩ ?rest104
                case hy104 => (intro w; go_simp; (try with_reducible rfl))
                (try simp only [Act.put, List.getElem_toArray, List.getElem_cons_zero, List.getElem_cons_succ, List.setIfInBounds_toArray, List.set_cons_zero, List.set_cons_succ])
                refine wpAnyIn_take (i := 12) (oi := ({ dst := some 33, op := Go.Op.fieldAddr 24 (Go.Operand.tmp 32) 0, type := 0, pos := "wal.go:47", after := #[{ on := 11, ground := Go.Ground.data }, { on := 6, ground := Go.Ground.guard }], guard := some (6, true) } : Go.Oper)) (v := ?v105) rfl rfl (by kernel_rfl) (by kernel_rfl) (by kernel_rfl) (fun _ _ _ h => h) ⟨Or.inl ⟨by rfl, ?hy105⟩, fun _ => rfl⟩ ?rest105
                case hy105 => (intro w; go_simp; (try with_reducible rfl))
                (try simp only [Act.put, List.getElem_toArray, List.getElem_cons_zero, List.getElem_cons_succ, List.setIfInBounds_toArray, List.set_cons_zero, List.set_cons_succ])
                refine wpAnyIn_ready (rs := [13, 15]) (by kernel_rfl) (by simp) ?_
                refine AllReadyIn.cons (o := ({ dst := some 34, op := Go.Op.load 2 (Go.Operand.tmp 33), type := 2, pos := "wal.go:47", after := #[{ on := 12, ground := Go.Ground.data }, { on := 6, ground := Go.Ground.guard }], guard := some (6, true) } : Go.Oper)) rfl (fun K hK => ?one106) ?more106
                case' one106 =>
                  go_simp
                  refine hK _ _ ?_
                  clear hK K
                  (try simp only [Act.put, List.getElem_toArray, List.getElem_cons_zero, List.getElem_cons_succ, List.setIfInBounds_toArray, List.set_cons_zero, List.set_cons_succ])
                  refine wpAnyIn_ready (rs := [15]) (by kernel_rfl) (by simp) ?_
                  refine AllReadyIn.cons (o := ({ dst := some 36, op := Go.Op.load 2 (Go.Operand.tmp 35), type := 2, pos := "wal.go:47", after := #[{ on := 14, ground := Go.Ground.data }, { on := 6, ground := Go.Ground.guard }], guard := some (6, true) } : Go.Oper)) rfl (fun K hK => ?_) AllReadyIn.nil
                  go_simp
                  refine hK _ _ ?_
                  clear hK K
                  (try simp only [Act.put, List.getElem_toArray, List.getElem_cons_zero, List.getElem_cons_succ, List.setIfInBounds_toArray, List.set_cons_zero, List.set_cons_succ])
                  refine wpAnyIn_take (i := 16) (oi := ({ dst := some 37, op := Go.Op.binOp Go.BinOp.geq 2 (Go.Operand.tmp 34) (Go.Operand.tmp 36) 2, type := 4, pos := "wal.go:47", after := #[{ on := 13, ground := Go.Ground.data }, { on := 15, ground := Go.Ground.data }, { on := 6, ground := Go.Ground.guard }], guard := some (6, true) } : Go.Oper)) (v := ?v107) rfl rfl (by kernel_rfl) (by kernel_rfl) (by kernel_rfl) (fun _ _ _ h => h) ⟨Or.inl ⟨by rfl, ?hy107⟩, fun _ => rfl⟩ ?rest107
                  case hy107 => (intro w; go_simp; (try with_reducible rfl))
                  (try simp only [Act.put, List.getElem_toArray, List.getElem_cons_zero, List.getElem_cons_succ, List.setIfInBounds_toArray, List.set_cons_zero, List.set_cons_succ])
                  refine wpAnyIn_take (i := 17) (oi := ({ dst := some 38, op := Go.Op.pick (Go.Operand.tmp 27) (Go.Operand.tmp 37) (Go.Operand.const (Go.Value.bool false)), type := 4, pos := "wal.go:47", after := #[{ on := 6, ground := Go.Ground.data }, { on := 16, ground := Go.Ground.data }, { on := 2, ground := Go.Ground.guard }], guard := some (2, false) } : Go.Oper)) (v := ?v108) rfl rfl (by kernel_rfl) (by kernel_rfl) (by kernel_rfl) (fun _ _ _ h => h) ⟨Or.inl ⟨by rfl, ?hy108⟩, fun _ => rfl⟩ ?rest108
                  case hy108 => (intro w; go_simp; (try with_reducible rfl))
                  (try simp only [Act.put, List.getElem_toArray, List.getElem_cons_zero, List.getElem_cons_succ, List.setIfInBounds_toArray, List.set_cons_zero, List.set_cons_succ])
                  refine wpAnyIn_take (i := 18) (oi := ({ dst := some 39, op := Go.Op.pick (Go.Operand.tmp 23) (Go.Operand.const (Go.Value.bool true)) (Go.Operand.tmp 38), type := 4, pos := "wal.go:47", after := #[{ on := 2, ground := Go.Ground.data }, { on := 17, ground := Go.Ground.data }], guard := none } : Go.Oper)) (v := ?v109) rfl rfl (by kernel_rfl) (by kernel_rfl) (by kernel_rfl) (fun _ _ _ h => h) ⟨Or.inl ⟨by rfl, ?hy109⟩, fun _ => rfl⟩ ?rest109
                  case hy109 => (intro w; go_simp; (try with_reducible rfl))
                  (try simp only [Act.put, List.getElem_toArray, List.getElem_cons_zero, List.getElem_cons_succ, List.setIfInBounds_toArray, List.set_cons_zero, List.set_cons_succ])
                  refine wpAnyIn_done (by kernel_rfl) ?_ _
                case' more106 =>
                  refine AllReadyIn.cons (o := ({ dst := some 36, op := Go.Op.load 2 (Go.Operand.tmp 35), type := 2, pos := "wal.go:47", after := #[{ on := 14, ground := Go.Ground.data }, { on := 6, ground := Go.Ground.guard }], guard := some (6, true) } : Go.Oper)) rfl (fun K hK => ?_) AllReadyIn.nil
                  go_simp
                  refine hK _ _ ?_
                  clear hK K
                  (try simp only [Act.put, List.getElem_toArray, List.getElem_cons_zero, List.getElem_cons_succ, List.setIfInBounds_toArray, List.set_cons_zero, List.set_cons_succ])
                  refine wpAnyIn_ready (rs := [13]) (by kernel_rfl) (by simp) ?_
                  refine AllReadyIn.cons (o := ({ dst := some 34, op := Go.Op.load 2 (Go.Operand.tmp 33), type := 2, pos := "wal.go:47", after := #[{ on := 12, ground := Go.Ground.data }, { on := 6, ground := Go.Ground.guard }], guard := some (6, true) } : Go.Oper)) rfl (fun K hK => ?_) AllReadyIn.nil
                  go_simp
                  refine hK _ _ ?_
                  clear hK K
                  (try simp only [Act.put, List.getElem_toArray, List.getElem_cons_zero, List.getElem_cons_succ, List.setIfInBounds_toArray, List.set_cons_zero, List.set_cons_succ])
                  refine wpAnyIn_take (i := 16) (oi := ({ dst := some 37, op := Go.Op.binOp Go.BinOp.geq 2 (Go.Operand.tmp 34) (Go.Operand.tmp 36) 2, type := 4, pos := "wal.go:47", after := #[{ on := 13, ground := Go.Ground.data }, { on := 15, ground := Go.Ground.data }, { on := 6, ground := Go.Ground.guard }], guard := some (6, true) } : Go.Oper)) (v := ?v110) rfl rfl (by kernel_rfl) (by kernel_rfl) (by kernel_rfl) (fun _ _ _ h => h) ⟨Or.inl ⟨by rfl, ?hy110⟩, fun _ => rfl⟩ ?rest110
                  case hy110 => (intro w; go_simp; (try with_reducible rfl))
                  (try simp only [Act.put, List.getElem_toArray, List.getElem_cons_zero, List.getElem_cons_succ, List.setIfInBounds_toArray, List.set_cons_zero, List.set_cons_succ])
                  refine wpAnyIn_take (i := 17) (oi := ({ dst := some 38, op := Go.Op.pick (Go.Operand.tmp 27) (Go.Operand.tmp 37) (Go.Operand.const (Go.Value.bool false)), type := 4, pos := "wal.go:47", after := #[{ on := 6, ground := Go.Ground.data }, { on := 16, ground := Go.Ground.data }, { on := 2, ground := Go.Ground.guard }], guard := some (2, false) } : Go.Oper)) (v := ?v111) rfl rfl (by kernel_rfl) (by kernel_rfl) (by kernel_rfl) (fun _ _ _ h => h) ⟨Or.inl ⟨by rfl, ?hy111⟩, fun _ => rfl⟩ ?rest111
                  case hy111 => (intro w; go_simp; (try with_reducible rfl))
                  (try simp only [Act.put, List.getElem_toArray, List.getElem_cons_zero, List.getElem_cons_succ, List.setIfInBounds_toArray, List.set_cons_zero, List.set_cons_succ])
                  refine wpAnyIn_take (i := 18) (oi := ({ dst := some 39, op := Go.Op.pick (Go.Operand.tmp 23) (Go.Operand.const (Go.Value.bool true)) (Go.Operand.tmp 38), type := 4, pos := "wal.go:47", after := #[{ on := 2, ground := Go.Ground.data }, { on := 17, ground := Go.Ground.data }], guard := none } : Go.Oper)) (v := ?v112) rfl rfl (by kernel_rfl) (by kernel_rfl) (by kernel_rfl) (fun _ _ _ h => h) ⟨Or.inl ⟨by rfl, ?hy112⟩, fun _ => rfl⟩ ?rest112
                  case hy112 => (intro w; go_simp; (try with_reducible rfl))
                  (try simp only [Act.put, List.getElem_toArray, List.getElem_cons_zero, List.getElem_cons_succ, List.setIfInBounds_toArray, List.set_cons_zero, List.set_cons_succ])
                  refine wpAnyIn_done (by kernel_rfl) ?_ _
              case' more103 =>
                refine AllReadyIn.cons (o := ({ dst := some 36, op := Go.Op.load 2 (Go.Operand.tmp 35), type := 2, pos := "wal.go:47", after := #[{ on := 14, ground := Go.Ground.data }, { on := 6, ground := Go.Ground.guard }], guard := some (6, true) } : Go.Oper)) rfl (fun K hK => ?_) AllReadyIn.nil
                go_simp
                refine hK _ _ ?_
                clear hK K
                (try simp only [Act.put, List.getElem_toArray, List.getElem_cons_zero, List.getElem_cons_succ, List.setIfInBounds_toArray, List.set_cons_zero, List.set_cons_succ])
                refine wpAnyIn_ready (rs := [7]) (by kernel_rfl) (by simp) ?_
                refine AllReadyIn.cons (o := ({ dst := some 28, op := Go.Op.load 26 (Go.Operand.tmp 5), type := 26, pos := "wal.go:47", after := #[{ on := 6, ground := Go.Ground.guard }], guard := some (6, true) } : Go.Oper)) rfl (fun K hK => ?_) AllReadyIn.nil
                go_simp
                refine hK _ _ ?_
                clear hK K
                (try simp only [Act.put, List.getElem_toArray, List.getElem_cons_zero, List.getElem_cons_succ, List.setIfInBounds_toArray, List.set_cons_zero, List.set_cons_succ])
                refine wpAnyIn_take (i := 11) (oi := ({ dst := some 32, op := Go.Op.indexAddr 26 (Go.Operand.tmp 28) (Go.Operand.tmp 31), type := 0, pos := "wal.go:47", after := #[{ on := 7, ground := Go.Ground.data }, { on := 10, ground := Go.Ground.data }, { on := 6, ground := Go.Ground.guard }], guard := some (6, true) } : Go.Oper)) (v := ?v113) rfl rfl (by kernel_rfl) (by kernel_rfl) (by kernel_rfl) (fun _ _ _ h => h) ⟨Or.inl ⟨by rfl, ?hy113⟩, fun _ => rfl⟩ ?rest113
                case hy113 => (intro w; go_simp; (try with_reducible rfl))
                (try simp only [Act.put, List.getElem_toArray, List.getElem_cons_zero, List.getElem_cons_succ, List.setIfInBounds_toArray, List.set_cons_zero, List.set_cons_succ])
                refine wpAnyIn_take (i := 12) (oi := ({ dst := some 33, op := Go.Op.fieldAddr 24 (Go.Operand.tmp 32) 0, type := 0, pos := "wal.go:47", after := #[{ on := 11, ground := Go.Ground.data }, { on := 6, ground := Go.Ground.guard }], guard := some (6, true) } : Go.Oper)) (v := ?v114) rfl rfl (by kernel_rfl) (by kernel_rfl) (by kernel_rfl) (fun _ _ _ h => h) ⟨Or.inl ⟨by rfl, ?hy114⟩, fun _ => rfl⟩ ?rest114
                case hy114 => (intro w; go_simp; (try with_reducible rfl))
                (try simp only [Act.put, List.getElem_toArray, List.getElem_cons_zero, List.getElem_cons_succ, List.setIfInBounds_toArray, List.set_cons_zero, List.set_cons_succ])
                refine wpAnyIn_ready (rs := [13]) (by kernel_rfl) (by simp) ?_
                refine AllReadyIn.cons (o := ({ dst := some 34, op := Go.Op.load 2 (Go.Operand.tmp 33), type := 2, pos := "wal.go:47", after := #[{ on := 12, ground := Go.Ground.data }, { on := 6, ground := Go.Ground.guard }], guard := some (6, true) } : Go.Oper)) rfl (fun K hK => ?_) AllReadyIn.nil
                go_simp
                refine hK _ _ ?_
                clear hK K
                (try simp only [Act.put, List.getElem_toArray, List.getElem_cons_zero, List.getElem_cons_succ, List.setIfInBounds_toArray, List.set_cons_zero, List.set_cons_succ])
                refine wpAnyIn_take (i := 16) (oi := ({ dst := some 37, op := Go.Op.binOp Go.BinOp.geq 2 (Go.Operand.tmp 34) (Go.Operand.tmp 36) 2, type := 4, pos := "wal.go:47", after := #[{ on := 13, ground := Go.Ground.data }, { on := 15, ground := Go.Ground.data }, { on := 6, ground := Go.Ground.guard }], guard := some (6, true) } : Go.Oper)) (v := ?v115) rfl rfl (by kernel_rfl) (by kernel_rfl) (by kernel_rfl) (fun _ _ _ h => h) ⟨Or.inl ⟨by rfl, ?hy115⟩, fun _ => rfl⟩ ?rest115
                case hy115 => (intro w; go_simp; (try with_reducible rfl))
                (try simp only [Act.put, List.getElem_toArray, List.getElem_cons_zero, List.getElem_cons_succ, List.setIfInBounds_toArray, List.set_cons_zero, List.set_cons_succ])
                refine wpAnyIn_take (i := 17) (oi := ({ dst := some 38, op := Go.Op.pick (Go.Operand.tmp 27) (Go.Operand.tmp 37) (Go.Operand.const (Go.Value.bool false)), type := 4, pos := "wal.go:47", after := #[{ on := 6, ground := Go.Ground.data }, { on := 16, ground := Go.Ground.data }, { on := 2, ground := Go.Ground.guard }], guard := some (2, false) } : Go.Oper)) (v := ?v116) rfl rfl (by kernel_rfl) (by kernel_rfl) (by kernel_rfl) (fun _ _ _ h => h) ⟨Or.inl ⟨by rfl, ?hy116⟩, fun _ => rfl⟩ ?rest116
                case hy116 => (intro w; go_simp; (try with_reducible rfl))
                (try simp only [Act.put, List.getElem_toArray, List.getElem_cons_zero, List.getElem_cons_succ, List.setIfInBounds_toArray, List.set_cons_zero, List.set_cons_succ])
                refine wpAnyIn_take (i := 18) (oi := ({ dst := some 39, op := Go.Op.pick (Go.Operand.tmp 23) (Go.Operand.const (Go.Value.bool true)) (Go.Operand.tmp 38), type := 4, pos := "wal.go:47", after := #[{ on := 2, ground := Go.Ground.data }, { on := 17, ground := Go.Ground.data }], guard := none } : Go.Oper)) (v := ?v117) rfl rfl (by kernel_rfl) (by kernel_rfl) (by kernel_rfl) (fun _ _ _ h => h) ⟨Or.inl ⟨by rfl, ?hy117⟩, fun _ => rfl⟩ ?rest117
                case hy117 => (intro w; go_simp; (try with_reducible rfl))
                (try simp only [Act.put, List.getElem_toArray, List.getElem_cons_zero, List.getElem_cons_succ, List.setIfInBounds_toArray, List.set_cons_zero, List.set_cons_succ])
                refine wpAnyIn_done (by kernel_rfl) ?_ _
            case' more100 =>
              refine AllReadyIn.cons (o := ({ dst := some 36, op := Go.Op.load 2 (Go.Operand.tmp 35), type := 2, pos := "wal.go:47", after := #[{ on := 14, ground := Go.Ground.data }, { on := 6, ground := Go.Ground.guard }], guard := some (6, true) } : Go.Oper)) rfl (fun K hK => ?_) AllReadyIn.nil
              go_simp
              refine hK _ _ ?_
              clear hK K
              (try simp only [Act.put, List.getElem_toArray, List.getElem_cons_zero, List.getElem_cons_succ, List.setIfInBounds_toArray, List.set_cons_zero, List.set_cons_succ])
              refine wpAnyIn_ready (rs := [7, 8]) (by kernel_rfl) (by simp) ?_
              refine AllReadyIn.cons (o := ({ dst := some 28, op := Go.Op.load 26 (Go.Operand.tmp 5), type := 26, pos := "wal.go:47", after := #[{ on := 6, ground := Go.Ground.guard }], guard := some (6, true) } : Go.Oper)) rfl (fun K hK => ?one118) ?more118
              case' one118 =>
                go_simp
                refine hK _ _ ?_
                clear hK K
                (try simp only [Act.put, List.getElem_toArray, List.getElem_cons_zero, List.getElem_cons_succ, List.setIfInBounds_toArray, List.set_cons_zero, List.set_cons_succ])
                refine wpAnyIn_ready (rs := [8]) (by kernel_rfl) (by simp) ?_
                refine AllReadyIn.cons (o := ({ dst := some 29, op := Go.Op.load 26 (Go.Operand.tmp 5), type := 26, pos := "wal.go:47", after := #[{ on := 6, ground := Go.Ground.guard }], guard := some (6, true) } : Go.Oper)) rfl (fun K hK => ?_) AllReadyIn.nil
                go_simp
                refine hK _ _ ?_
                clear hK K
                (try simp only [Act.put, List.getElem_toArray, List.getElem_cons_zero, List.getElem_cons_succ, List.setIfInBounds_toArray, List.set_cons_zero, List.set_cons_succ])
                refine wpAnyIn_take (i := 9) (oi := ({ dst := some 30, op := Go.Op.call { callee := Go.Callee.builtin Go.Builtin.len, args := #[Go.Operand.tmp 29], argTypes := #[26] }, type := 3, pos := "wal.go:47", after := #[{ on := 8, ground := Go.Ground.data }, { on := 6, ground := Go.Ground.guard }], guard := some (6, true) } : Go.Oper)) (v := ?v119) rfl rfl (by kernel_rfl) (by kernel_rfl) (by kernel_rfl) (fun _ _ _ h => h) ⟨Or.inl ⟨by rfl, ?hy119⟩, fun _ => rfl⟩ ?rest119
                case hy119 => (intro w; go_simp; (try with_reducible rfl))
                (try simp only [Act.put, List.getElem_toArray, List.getElem_cons_zero, List.getElem_cons_succ, List.setIfInBounds_toArray, List.set_cons_zero, List.set_cons_succ])
                refine wpAnyIn_take (i := 10) (oi := ({ dst := some 31, op := Go.Op.binOp Go.BinOp.sub 3 (Go.Operand.tmp 30) (Go.Operand.const (Go.Value.int Go.IntKind.i64 1)) 3, type := 3, pos := "wal.go:47", after := #[{ on := 9, ground := Go.Ground.data }, { on := 6, ground := Go.Ground.guard }], guard := some (6, true) } : Go.Oper)) (v := ?v120) rfl rfl (by kernel_rfl) (by kernel_rfl) (by kernel_rfl) (fun _ _ _ h => h) ⟨Or.inl ⟨by rfl, ?hy120⟩, fun _ => rfl⟩ ?rest120
                case hy120 => (intro w; go_simp; (try with_reducible rfl))
                (try simp only [Act.put, List.getElem_toArray, List.getElem_cons_zero, List.getElem_cons_succ, List.setIfInBounds_toArray, List.set_cons_zero, List.set_cons_succ])
                refine wpAnyIn_take (i := 11) (oi := ({ dst := some 32, op := Go.Op.indexAddr 26 (Go.Operand.tmp 28) (Go.Operand.tmp 31), type := 0, pos := "wal.go:47", after := #[{ on := 7, ground := Go.Ground.data }, { on := 10, ground := Go.Ground.data }, { on := 6, ground := Go.Ground.guard }], guard := some (6, true) } : Go.Oper)) (v := ?v121) rfl rfl (by kernel_rfl) (by kernel_rfl) (by kernel_rfl) (fun _ _ _ h => h) ⟨Or.inl ⟨by rfl, ?hy121⟩, fun _ => rfl⟩ ?rest121
                case hy121 => (intro w; go_simp; (try with_reducible rfl))
                (try simp only [Act.put, List.getElem_toArray, List.getElem_cons_zero, List.getElem_cons_succ, List.setIfInBounds_toArray, List.set_cons_zero, List.set_cons_succ])
                refine wpAnyIn_take (i := 12) (oi := ({ dst := some 33, op := Go.Op.fieldAddr 24 (Go.Operand.tmp 32) 0, type := 0, pos := "wal.go:47", after := #[{ on := 11, ground := Go.Ground.data }, { on := 6, ground := Go.Ground.guard }], guard := some (6, true) } : Go.Oper)) (v := ?v122) rfl rfl (by kernel_rfl) (by kernel_rfl) (by kernel_rfl) (fun _ _ _ h => h) ⟨Or.inl ⟨by rfl, ?hy122⟩, fun _ => rfl⟩ ?rest122
                case hy122 => (intro w; go_simp; (try with_reducible rfl))
                (try simp only [Act.put, List.getElem_toArray, List.getElem_cons_zero, List.getElem_cons_succ, List.setIfInBounds_toArray, List.set_cons_zero, List.set_cons_succ])
                refine wpAnyIn_ready (rs := [13]) (by kernel_rfl) (by simp) ?_
                refine AllReadyIn.cons (o := ({ dst := some 34, op := Go.Op.load 2 (Go.Operand.tmp 33), type := 2, pos := "wal.go:47", after := #[{ on := 12, ground := Go.Ground.data }, { on := 6, ground := Go.Ground.guard }], guard := some (6, true) } : Go.Oper)) rfl (fun K hK => ?_) AllReadyIn.nil
                go_simp
                refine hK _ _ ?_
                clear hK K
                (try simp only [Act.put, List.getElem_toArray, List.getElem_cons_zero, List.getElem_cons_succ, List.setIfInBounds_toArray, List.set_cons_zero, List.set_cons_succ])
                refine wpAnyIn_take (i := 16) (oi := ({ dst := some 37, op := Go.Op.binOp Go.BinOp.geq 2 (Go.Operand.tmp 34) (Go.Operand.tmp 36) 2, type := 4, pos := "wal.go:47", after := #[{ on := 13, ground := Go.Ground.data }, { on := 15, ground := Go.Ground.data }, { on := 6, ground := Go.Ground.guard }], guard := some (6, true) } : Go.Oper)) (v := ?v123) rfl rfl (by kernel_rfl) (by kernel_rfl) (by kernel_rfl) (fun _ _ _ h => h) ⟨Or.inl ⟨by rfl, ?hy123⟩, fun _ => rfl⟩ ?rest123
                case hy123 => (intro w; go_simp; (try with_reducible rfl))
                (try simp only [Act.put, List.getElem_toArray, List.getElem_cons_zero, List.getElem_cons_succ, List.setIfInBounds_toArray, List.set_cons_zero, List.set_cons_succ])
                refine wpAnyIn_take (i := 17) (oi := ({ dst := some 38, op := Go.Op.pick (Go.Operand.tmp 27) (Go.Operand.tmp 37) (Go.Operand.const (Go.Value.bool false)), type := 4, pos := "wal.go:47", after := #[{ on := 6, ground := Go.Ground.data }, { on := 16, ground := Go.Ground.data }, { on := 2, ground := Go.Ground.guard }], guard := some (2, false) } : Go.Oper)) (v := ?v124) rfl rfl (by kernel_rfl) (by kernel_rfl) (by kernel_rfl) (fun _ _ _ h => h) ⟨Or.inl ⟨by rfl, ?hy124⟩, fun _ => rfl⟩ ?rest124
                case hy124 => (intro w; go_simp; (try with_reducible rfl))
                (try simp only [Act.put, List.getElem_toArray, List.getElem_cons_zero, List.getElem_cons_succ, List.setIfInBounds_toArray, List.set_cons_zero, List.set_cons_succ])
                refine wpAnyIn_take (i := 18) (oi := ({ dst := some 39, op := Go.Op.pick (Go.Operand.tmp 23) (Go.Operand.const (Go.Value.bool true)) (Go.Operand.tmp 38), type := 4, pos := "wal.go:47", after := #[{ on := 2, ground := Go.Ground.data }, { on := 17, ground := Go.Ground.data }], guard := none } : Go.Oper)) (v := ?v125) rfl rfl (by kernel_rfl) (by kernel_rfl) (by kernel_rfl) (fun _ _ _ h => h) ⟨Or.inl ⟨by rfl, ?hy125⟩, fun _ => rfl⟩ ?rest125
                case hy125 => (intro w; go_simp; (try with_reducible rfl))
                (try simp only [Act.put, List.getElem_toArray, List.getElem_cons_zero, List.getElem_cons_succ, List.setIfInBounds_toArray, List.set_cons_zero, List.set_cons_succ])
                refine wpAnyIn_done (by kernel_rfl) ?_ _
              case' more118 =>
                refine AllReadyIn.cons (o := ({ dst := some 29, op := Go.Op.load 26 (Go.Operand.tmp 5), type := 26, pos := "wal.go:47", after := #[{ on := 6, ground := Go.Ground.guard }], guard := some (6, true) } : Go.Oper)) rfl (fun K hK => ?_) AllReadyIn.nil
                go_simp
                refine hK _ _ ?_
                clear hK K
                (try simp only [Act.put, List.getElem_toArray, List.getElem_cons_zero, List.getElem_cons_succ, List.setIfInBounds_toArray, List.set_cons_zero, List.set_cons_succ])
                refine wpAnyIn_take (i := 9) (oi := ({ dst := some 30, op := Go.Op.call { callee := Go.Callee.builtin Go.Builtin.len, args := #[Go.Operand.tmp 29], argTypes := #[26] }, type := 3, pos := "wal.go:47", after := #[{ on := 8, ground := Go.Ground.data }, { on := 6, ground := Go.Ground.guard }], guard := some (6, true) } : Go.Oper)) (v := ?v126) rfl rfl (by kernel_rfl) (by kernel_rfl) (by kernel_rfl) (fun _ _ _ h => h) ⟨Or.inl ⟨by rfl, ?hy126⟩, fun _ => rfl⟩ ?rest126
                case hy126 => (intro w; go_simp; (try with_reducible rfl))
                (try simp only [Act.put, List.getElem_toArray, List.getElem_cons_zero, List.getElem_cons_succ, List.setIfInBounds_toArray, List.set_cons_zero, List.set_cons_succ])
                refine wpAnyIn_take (i := 10) (oi := ({ dst := some 31, op := Go.Op.binOp Go.BinOp.sub 3 (Go.Operand.tmp 30) (Go.Operand.const (Go.Value.int Go.IntKind.i64 1)) 3, type := 3, pos := "wal.go:47", after := #[{ on := 9, ground := Go.Ground.data }, { on := 6, ground := Go.Ground.guard }], guard := some (6, true) } : Go.Oper)) (v := ?v127) rfl rfl (by kernel_rfl) (by kernel_rfl) (by kernel_rfl) (fun _ _ _ h => h) ⟨Or.inl ⟨by rfl, ?hy127⟩, fun _ => rfl⟩ ?rest127
                case hy127 => (intro w; go_simp; (try with_reducible rfl))
                (try simp only [Act.put, List.getElem_toArray, List.getElem_cons_zero, List.getElem_cons_succ, List.setIfInBounds_toArray, List.set_cons_zero, List.set_cons_succ])
                refine wpAnyIn_ready (rs := [7]) (by kernel_rfl) (by simp) ?_
                refine AllReadyIn.cons (o := ({ dst := some 28, op := Go.Op.load 26 (Go.Operand.tmp 5), type := 26, pos := "wal.go:47", after := #[{ on := 6, ground := Go.Ground.guard }], guard := some (6, true) } : Go.Oper)) rfl (fun K hK => ?_) AllReadyIn.nil
                go_simp
                refine hK _ _ ?_
                clear hK K
                (try simp only [Act.put, List.getElem_toArray, List.getElem_cons_zero, List.getElem_cons_succ, List.setIfInBounds_toArray, List.set_cons_zero, List.set_cons_succ])
                refine wpAnyIn_take (i := 11) (oi := ({ dst := some 32, op := Go.Op.indexAddr 26 (Go.Operand.tmp 28) (Go.Operand.tmp 31), type := 0, pos := "wal.go:47", after := #[{ on := 7, ground := Go.Ground.data }, { on := 10, ground := Go.Ground.data }, { on := 6, ground := Go.Ground.guard }], guard := some (6, true) } : Go.Oper)) (v := ?v128) rfl rfl (by kernel_rfl) (by kernel_rfl) (by kernel_rfl) (fun _ _ _ h => h) ⟨Or.inl ⟨by rfl, ?hy128⟩, fun _ => rfl⟩ ?rest128
                case hy128 => (intro w; go_simp; (try with_reducible rfl))
                (try simp only [Act.put, List.getElem_toArray, List.getElem_cons_zero, List.getElem_cons_succ, List.setIfInBounds_toArray, List.set_cons_zero, List.set_cons_succ])
                refine wpAnyIn_take (i := 12) (oi := ({ dst := some 33, op := Go.Op.fieldAddr 24 (Go.Operand.tmp 32) 0, type := 0, pos := "wal.go:47", after := #[{ on := 11, ground := Go.Ground.data }, { on := 6, ground := Go.Ground.guard }], guard := some (6, true) } : Go.Oper)) (v := ?v129) rfl rfl (by kernel_rfl) (by kernel_rfl) (by kernel_rfl) (fun _ _ _ h => h) ⟨Or.inl ⟨by rfl, ?hy129⟩, fun _ => rfl⟩ ?rest129
                case hy129 => (intro w; go_simp; (try with_reducible rfl))
                (try simp only [Act.put, List.getElem_toArray, List.getElem_cons_zero, List.getElem_cons_succ, List.setIfInBounds_toArray, List.set_cons_zero, List.set_cons_succ])
                refine wpAnyIn_ready (rs := [13]) (by kernel_rfl) (by simp) ?_
                refine AllReadyIn.cons (o := ({ dst := some 34, op := Go.Op.load 2 (Go.Operand.tmp 33), type := 2, pos := "wal.go:47", after := #[{ on := 12, ground := Go.Ground.data }, { on := 6, ground := Go.Ground.guard }], guard := some (6, true) } : Go.Oper)) rfl (fun K hK => ?_) AllReadyIn.nil
                go_simp
                refine hK _ _ ?_
                clear hK K
                (try simp only [Act.put, List.getElem_toArray, List.getElem_cons_zero, List.getElem_cons_succ, List.setIfInBounds_toArray, List.set_cons_zero, List.set_cons_succ])
                refine wpAnyIn_take (i := 16) (oi := ({ dst := some 37, op := Go.Op.binOp Go.BinOp.geq 2 (Go.Operand.tmp 34) (Go.Operand.tmp 36) 2, type := 4, pos := "wal.go:47", after := #[{ on := 13, ground := Go.Ground.data }, { on := 15, ground := Go.Ground.data }, { on := 6, ground := Go.Ground.guard }], guard := some (6, true) } : Go.Oper)) (v := ?v130) rfl rfl (by kernel_rfl) (by kernel_rfl) (by kernel_rfl) (fun _ _ _ h => h) ⟨Or.inl ⟨by rfl, ?hy130⟩, fun _ => rfl⟩ ?rest130
                case hy130 => (intro w; go_simp; (try with_reducible rfl))
                (try simp only [Act.put, List.getElem_toArray, List.getElem_cons_zero, List.getElem_cons_succ, List.setIfInBounds_toArray, List.set_cons_zero, List.set_cons_succ])
                refine wpAnyIn_take (i := 17) (oi := ({ dst := some 38, op := Go.Op.pick (Go.Operand.tmp 27) (Go.Operand.tmp 37) (Go.Operand.const (Go.Value.bool false)), type := 4, pos := "wal.go:47", after := #[{ on := 6, ground := Go.Ground.data }, { on := 16, ground := Go.Ground.data }, { on := 2, ground := Go.Ground.guard }], guard := some (2, false) } : Go.Oper)) (v := ?v131) rfl rfl (by kernel_rfl) (by kernel_rfl) (by kernel_rfl) (fun _ _ _ h => h) ⟨Or.inl ⟨by rfl, ?hy131⟩, fun _ => rfl⟩ ?rest131
                case hy131 => (intro w; go_simp; (try with_reducible rfl))
                (try simp only [Act.put, List.getElem_toArray, List.getElem_cons_zero, List.getElem_cons_succ, List.setIfInBounds_toArray, List.set_cons_zero, List.set_cons_succ])
                refine wpAnyIn_take (i := 18) (oi := ({ dst := some 39, op := Go.Op.pick (Go.Operand.tmp 23) (Go.Operand.const (Go.Value.bool true)) (Go.Operand.tmp 38), type := 4, pos := "wal.go:47", after := #[{ on := 2, ground := Go.Ground.data }, { on := 17, ground := Go.Ground.data }], guard := none } : Go.Oper)) (v := ?v132) rfl rfl (by kernel_rfl) (by kernel_rfl) (by kernel_rfl) (fun _ _ _ h => h) ⟨Or.inl ⟨by rfl, ?hy132⟩, fun _ => rfl⟩ ?rest132
                case hy132 => (intro w; go_simp; (try with_reducible rfl))
                (try simp only [Act.put, List.getElem_toArray, List.getElem_cons_zero, List.getElem_cons_succ, List.setIfInBounds_toArray, List.set_cons_zero, List.set_cons_succ])
                refine wpAnyIn_done (by kernel_rfl) ?_ _
          all_goals
            have X9 := Lib.hid (show Ext W3 wb.drew from HXB.out.trans (by with_reducible (repeat (first | exact Ext.rfl_ _ | assumption | refine Ext.drew ?_ | refine Ext.drewN ?_ _ | refine Ext.alloc ?_ _ | refine Ext.trans ?_ (by assumption)))))
            have OF9 := Lib.hid (HOF.out.ext (show Ext wb wb.drew from (by with_reducible (repeat (first | exact Ext.rfl_ _ | assumption | refine Ext.drew ?_ | refine Ext.drewN ?_ _ | refine Ext.alloc ?_ _ | refine Ext.trans ?_ (by assumption))))))
            obtain ⟨q0, q1, _, _⟩ := box2 HB1.out (show Ext wb wb.drew from (by with_reducible (repeat (first | exact Ext.rfl_ _ | assumption | refine Ext.drew ?_ | refine Ext.drewN ?_ _ | refine Ext.alloc ?_ _ | refine Ext.trans ?_ (by assumption)))))
            have c5 := (show Ext wb wb.drew from (by with_reducible (repeat (first | exact Ext.rfl_ _ | assumption | refine Ext.drew ?_ | refine Ext.drewN ?_ _ | refine Ext.alloc ?_ _ | refine Ext.trans ?_ (by assumption))))).keeps _ _ _ c5
            generalize wb.drew = w9 at X9 OF9 q0 q1 c5 ⊢
            have XA := Lib.hid (show Ext w9 (w9.alloc (.cells #[.int .i64 y.idx, .slice A2 n2 c2] 24)) from (by with_reducible (repeat (first | exact Ext.rfl_ _ | assumption | refine Ext.drew ?_ | refine Ext.drewN ?_ _ | refine Ext.alloc ?_ _ | refine Ext.trans ?_ (by assumption)))))
            have HO := Lib.hid (HROW.out.at_ (X9.out.trans XA.out))
            have OFA := Lib.hid (OF9.out.ext XA.out)
            have HBS := Lib.hid (show w.heap.size + 4 ≤ (w9.alloc (.cells #[.int .i64 y.idx, .slice A2 n2 c2] 24)).heap.size from by have := (X9.out.trans XA.out).size; have := HZ3.out; omega)
            have SZ := Lib.hid (show (l : List Bat).length ≤ 1000000 from by first | (simp; done) | omega)
            gi_wp2_with (refine wpi_appLB rfl _ _ rfl (w.heap.size + 4) (.slice (some ⟨g, 0, none⟩) l.length cl2) l rfl HO.out w9 24 ⟨A2, n2, c2⟩ y rfl ⟨OFA.out, HYL.out⟩ hnc2 w9.heap.size rfl rfl SZ.out HBS.out ?_; intro v10 w10 o10 k10 g10 h10; obtain ⟨A10, n10, c10, rfl⟩ := OwnLB.slice o10; obtain ⟨d5, e5, d6, e6⟩ := H3.out.grown HZ3.out (X9.out.trans XA.out) g10; have NX := Lib.hid (H3.out.next (k := k) HT3.out HZ3.out (X9.out.trans XA.out) o10 k10 g10 h10 HGET.out HRDP.out HBEH.out ((k : Int) + (8 + (nb : Int))) (by rw [HEND.out]; simp)); clear o10 k10 g10 h10)
            refine ⟨trivial, fun h => (by simp [Fence.wide] at h), ?_⟩
            refine (callsIn_wide.2 (fsize_any nb _ HMAY.out)).mono ?_
            rintro e w11 ⟨rfl, rfl⟩
            gi_wp2
            exact ⟨⟨_, _, NX.out.1⟩, NX.out.2⟩
  · rintro T Wd ⟨l, v, hI⟩ hD
    have hll : l.length = (frs b).length := hI.len.trans (by rw [atsF_len])
    have hg := batW_of (hI.gw.end_ hll)
    have hsz : sizeW b = endF (frs b) := by rw [hg.2.2, List.take_of_length_le (by rw [hll]; exact Nat.le_refl _)]
    have HG := Lib.hid hg
    have HSZ := Lib.hid hsz
    have HR := Lib.hid hI.row
    have HZD := Lib.hid hI.size
    have HXD := Lib.hid hI.ext
    obtain ⟨i1, i2, i3, i4, i5, i6, -, -, -, -, -, -⟩ := id hI
    rw [atsF_snd] at i3
    rw [hz5] at hD
    have HD := Lib.hid hD
    have HX := Lib.hid hx
    obtain ⟨Av, nv, cv, rfl⟩ := OwnLB.slice hI.row.1
    clear hg hsz hI hD hx
    gi_wp2
    refine wpIn_wide.2 ?_
    refine wp_region_held_drew (S := (fun W => W.cell? ⟨w.heap.size, 0, none⟩ = some (.slice Av nv cv) ∧ W.cell? ⟨w.heap.size + 1, 0, none⟩ = some (.int .i64 (endF (frs b) : Nat)) ∧ W.cell? ⟨w.heap.size + 1 + 1, 0, none⟩ = some (.bool true))) (by kernel_rfl) (by (try dsimp only); exact ⟨Ext.keeps (show Ext Wd _ from (by with_reducible (repeat (first | exact Ext.rfl_ _ | assumption | refine Ext.drew ?_ | refine Ext.drewN ?_ _ | refine Ext.alloc ?_ _ | refine Ext.trans ?_ (by assumption))))) _ _ _ i1, Ext.keeps (show Ext Wd _ from (by with_reducible (repeat (first | exact Ext.rfl_ _ | assumption | refine Ext.drew ?_ | refine Ext.drewN ?_ _ | refine Ext.alloc ?_ _ | refine Ext.trans ?_ (by assumption))))) _ _ _ i3, Ext.keeps (show Ext Wd _ from (by with_reducible (repeat (first | exact Ext.rfl_ _ | assumption | refine Ext.drew ?_ | refine Ext.drewN ?_ _ | refine Ext.alloc ?_ _ | refine Ext.trans ?_ (by assumption))))) _ _ _ i5⟩) (fun hHeld => ?_)
    refine wpAnyH_take (i := 0) (oi := ({ dst := some 49, op := Go.Op.load 26 (Go.Operand.tmp 5), type := 26, pos := "wal.go:53", after := #[], guard := none } : Go.Oper)) (v := ?v133) rfl (by kernel_rfl) (by kernel_rfl) (by kernel_rfl) (fun _ _ _ h => batchesQ (by decide) (by decide) (by decide) h) (Or.inl ⟨by rfl, ?hy133⟩) (by assumption) ?rest133
    case hy133 => (intro w hSw; (try dsimp only at hSw); go_simp; (try with_reducible rfl))
    (try simp only [Act.put, List.getElem_toArray, List.getElem_cons_zero, List.getElem_cons_succ, List.setIfInBounds_toArray, List.set_cons_zero, List.set_cons_succ])
    refine wpAnyH_take (i := 1) (oi := ({ dst := some 50, op := Go.Op.load 3 (Go.Operand.tmp 6), type := 3, pos := "wal.go:53", after := #[{ on := 8, ground := Go.Ground.gcOnly Go.Departure.lateStores }], guard := none } : Go.Oper)) (v := ?v134) rfl (by kernel_rfl) (by kernel_rfl) (by kernel_rfl) (fun _ _ _ h => batchesQ (by decide) (by decide) (by decide) h) (Or.inl ⟨by rfl, ?hy134⟩) (by assumption) ?rest134
    case hy134 => (intro w hSw; (try dsimp only at hSw); go_simp; (try with_reducible rfl))
    (try simp only [Act.put, List.getElem_toArray, List.getElem_cons_zero, List.getElem_cons_succ, List.setIfInBounds_toArray, List.set_cons_zero, List.set_cons_succ])
    refine wpAnyH_take (i := 2) (oi := ({ dst := some 51, op := Go.Op.load 4 (Go.Operand.tmp 7), type := 4, pos := "wal.go:53", after := #[], guard := none } : Go.Oper)) (v := ?v135) rfl (by kernel_rfl) (by kernel_rfl) (by kernel_rfl) (fun _ _ _ h => batchesQ (by decide) (by decide) (by decide) h) (Or.inl ⟨by rfl, ?hy135⟩) (by assumption) ?rest135
    case hy135 => (intro w hSw; (try dsimp only at hSw); go_simp; (try with_reducible rfl))
    (try simp only [Act.put, List.getElem_toArray, List.getElem_cons_zero, List.getElem_cons_succ, List.setIfInBounds_toArray, List.set_cons_zero, List.set_cons_succ])
    refine wpAnyH_take (i := 3) (oi := ({ dst := some 52, op := Go.Op.move (Go.Operand.tmp 51), type := 4, pos := "wal.go:53", after := #[{ on := 2, ground := Go.Ground.data }], guard := none } : Go.Oper)) (v := ?v136) rfl (by kernel_rfl) (by kernel_rfl) (by kernel_rfl) (fun _ _ _ h => batchesQ (by decide) (by decide) (by decide) h) (Or.inl ⟨by rfl, ?hy136⟩) (by assumption) ?rest136
    case hy136 => (intro w hSw; (try dsimp only at hSw); go_simp; (try with_reducible rfl))
    (try simp only [Act.put, List.getElem_toArray, List.getElem_cons_zero, List.getElem_cons_succ, List.setIfInBounds_toArray, List.set_cons_zero, List.set_cons_succ])
    refine wpAnyH_take (i := 4) (oi := ({ dst := some 53, op := Go.Op.move (Go.Operand.tmp 0), type := 29, pos := "wal.go:53", after := #[{ on := 3, ground := Go.Ground.guard }], guard := some (3, true) } : Go.Oper)) (v := ?v137) rfl (by kernel_rfl) (by kernel_rfl) (by kernel_rfl) (fun _ _ _ h => batchesQ (by decide) (by decide) (by decide) h) (Or.inl ⟨by rfl, ?hy137⟩) (by assumption) ?rest137
    case hy137 => (intro w hSw; (try dsimp only at hSw); go_simp; (try with_reducible rfl))
    (try simp only [Act.put, List.getElem_toArray, List.getElem_cons_zero, List.getElem_cons_succ, List.setIfInBounds_toArray, List.set_cons_zero, List.set_cons_succ])
    refine wpAnyH_ready (rs := [5]) (by kernel_rfl) (by simp) ?_
    refine AllReadyH.cons (o := ({ dst := some 54, op := Go.Op.call { callee := Go.Callee.value (Go.Operand.func 44), args := #[Go.Operand.tmp 53], argTypes := #[29] }, type := 4, pos := "wal.go:53", after := #[{ on := 4, ground := Go.Ground.data }, { on := 3, ground := Go.Ground.chain }, { on := 3, ground := Go.Ground.guard }], guard := some (3, true) } : Go.Oper)) rfl (fun K hK => ?_) AllReadyH.nil
    go_simp
    refine (fodd_any A n c b _ (HX.out.ext (HXD.out.trans (by with_reducible (repeat (first | exact Ext.rfl_ _ | assumption | refine Ext.drew ?_ | refine Ext.drewN ?_ _ | refine Ext.alloc ?_ _ | refine Ext.trans ?_ (by assumption)))))) hnc hnb).mono ?_; rintro e w9 ⟨rfl, hw9⟩
    (try (go_wp2_with fail))
    refine hK.out _ _ (by (try dsimp only); exact ⟨Ext.keeps (show Ext Wd _ from (by with_reducible (repeat (first | exact Ext.rfl_ _ | assumption | refine Ext.drew ?_ | refine Ext.drewN ?_ _ | refine Ext.alloc ?_ _ | refine Ext.trans ?_ (by assumption))))) _ _ _ i1, Ext.keeps (show Ext Wd _ from (by with_reducible (repeat (first | exact Ext.rfl_ _ | assumption | refine Ext.drew ?_ | refine Ext.drewN ?_ _ | refine Ext.alloc ?_ _ | refine Ext.trans ?_ (by assumption))))) _ _ _ i3, Ext.keeps (show Ext Wd _ from (by with_reducible (repeat (first | exact Ext.rfl_ _ | assumption | refine Ext.drew ?_ | refine Ext.drewN ?_ _ | refine Ext.alloc ?_ _ | refine Ext.trans ?_ (by assumption))))) _ _ _ i5⟩) (fun hHeld => ?_)
    clear hK K
    (try simp only [Act.put, List.getElem_toArray, List.getElem_cons_zero, List.getElem_cons_succ, List.setIfInBounds_toArray, List.set_cons_zero, List.set_cons_succ])
    refine wpAnyH_take (i := 6) (oi := ({ dst := some 55, op := Go.Op.unOp Go.UnOp.not 4 (Go.Operand.tmp 54), type := 4, pos := "wal.go:53", after := #[{ on := 5, ground := Go.Ground.data }, { on := 3, ground := Go.Ground.guard }, { on := 9, ground := Go.Ground.gcOnly Go.Departure.lateStores }], guard := some (3, true) } : Go.Oper)) (v := ?v138) rfl (by kernel_rfl) (by kernel_rfl) (by kernel_rfl) (fun _ _ _ h => batchesQ (by decide) (by decide) (by decide) h) (Or.inl ⟨by rfl, ?hy138⟩) (by assumption) ?rest138
    case hy138 => (intro w hSw; (try dsimp only at hSw); go_simp; (try with_reducible rfl))
    (try simp only [Act.put, List.getElem_toArray, List.getElem_cons_zero, List.getElem_cons_succ, List.setIfInBounds_toArray, List.set_cons_zero, List.set_cons_succ])
    refine wpAnyH_take (i := 7) (oi := ({ dst := some 56, op := Go.Op.pick (Go.Operand.tmp 52) (Go.Operand.tmp 55) (Go.Operand.const (Go.Value.bool false)), type := 4, pos := "wal.go:53", after := #[{ on := 3, ground := Go.Ground.data }, { on := 6, ground := Go.Ground.data }, { on := 9, ground := Go.Ground.gcOnly Go.Departure.lateStores }], guard := none } : Go.Oper)) (v := ?v139) rfl (by kernel_rfl) (by kernel_rfl) (by kernel_rfl) (fun _ _ _ h => batchesQ (by decide) (by decide) (by decide) h) (Or.inl ⟨by rfl, ?hy139⟩) (by assumption) ?rest139
    case hy139 => (intro w hSw; (try dsimp only at hSw); go_simp; (try with_reducible rfl))
    (try simp only [Act.put, List.getElem_toArray, List.getElem_cons_zero, List.getElem_cons_succ, List.setIfInBounds_toArray, List.set_cons_zero, List.set_cons_succ])
    refine wpAnyH_ready (rs := [8]) (by kernel_rfl) (by simp) ?_
    refine AllReadyH.cons (o := ({ dst := some 2, op := Go.Op.assign (Go.Operand.tmp 49), type := 26, pos := "wal.go:53", after := #[{ on := 0, ground := Go.Ground.data }, { on := 5, ground := Go.Ground.chain }, { on := 0, ground := Go.Ground.phase }, { on := 1, ground := Go.Ground.textOnly Go.Departure.lateStores }, { on := 2, ground := Go.Ground.textOnly Go.Departure.lateStores }, { on := 3, ground := Go.Ground.textOnly Go.Departure.lateStores }, { on := 4, ground := Go.Ground.textOnly Go.Departure.lateStores }, { on := 5, ground := Go.Ground.textOnly Go.Departure.lateStoresUnsure }, { on := 6, ground := Go.Ground.textOnly Go.Departure.lateStores }, { on := 7, ground := Go.Ground.textOnly Go.Departure.lateStores }], guard := none } : Go.Oper)) rfl (fun K hK => ?_) AllReadyH.nil
    go_simp
    refine hK.out _ _ (by (try dsimp only); exact ⟨Ext.keeps (show Ext Wd _ from (by with_reducible (repeat (first | exact Ext.rfl_ _ | assumption | refine Ext.drew ?_ | refine Ext.drewN ?_ _ | refine Ext.alloc ?_ _ | refine Ext.trans ?_ (by assumption))))) _ _ _ i1, Ext.keeps (show Ext Wd _ from (by with_reducible (repeat (first | exact Ext.rfl_ _ | assumption | refine Ext.drew ?_ | refine Ext.drewN ?_ _ | refine Ext.alloc ?_ _ | refine Ext.trans ?_ (by assumption))))) _ _ _ i3, Ext.keeps (show Ext Wd _ from (by with_reducible (repeat (first | exact Ext.rfl_ _ | assumption | refine Ext.drew ?_ | refine Ext.drewN ?_ _ | refine Ext.alloc ?_ _ | refine Ext.trans ?_ (by assumption))))) _ _ _ i5⟩) (fun hHeld => ?_)
    clear hK K
    (try simp only [Act.put, List.getElem_toArray, List.getElem_cons_zero, List.getElem_cons_succ, List.setIfInBounds_toArray, List.set_cons_zero, List.set_cons_succ])
    refine wpAnyH_ready (rs := [9]) (by kernel_rfl) (by simp) ?_
    refine AllReadyH.cons (o := ({ dst := some 3, op := Go.Op.assign (Go.Operand.tmp 50), type := 3, pos := "wal.go:53", after := #[{ on := 1, ground := Go.Ground.data }, { on := 8, ground := Go.Ground.chain }, { on := 0, ground := Go.Ground.phase }, { on := 1, ground := Go.Ground.phase }, { on := 2, ground := Go.Ground.textOnly Go.Departure.lateStores }, { on := 3, ground := Go.Ground.textOnly Go.Departure.lateStores }, { on := 4, ground := Go.Ground.textOnly Go.Departure.lateStores }, { on := 5, ground := Go.Ground.textOnly Go.Departure.lateStoresUnsure }, { on := 6, ground := Go.Ground.textOnly Go.Departure.lateStores }, { on := 7, ground := Go.Ground.textOnly Go.Departure.lateStores }, { on := 8, ground := Go.Ground.phase }], guard := none } : Go.Oper)) rfl (fun K hK => ?_) AllReadyH.nil
    go_simp
    refine hK.out _ _ (by (try dsimp only); exact ⟨Ext.keeps (show Ext Wd _ from (by with_reducible (repeat (first | exact Ext.rfl_ _ | assumption | refine Ext.drew ?_ | refine Ext.drewN ?_ _ | refine Ext.alloc ?_ _ | refine Ext.trans ?_ (by assumption))))) _ _ _ i1, Ext.keeps (show Ext Wd _ from (by with_reducible (repeat (first | exact Ext.rfl_ _ | assumption | refine Ext.drew ?_ | refine Ext.drewN ?_ _ | refine Ext.alloc ?_ _ | refine Ext.trans ?_ (by assumption))))) _ _ _ i3, Ext.keeps (show Ext Wd _ from (by with_reducible (repeat (first | exact Ext.rfl_ _ | assumption | refine Ext.drew ?_ | refine Ext.drewN ?_ _ | refine Ext.alloc ?_ _ | refine Ext.trans ?_ (by assumption))))) _ _ _ i5⟩) (fun hHeld => ?_)
    clear hK K
    (try simp only [Act.put, List.getElem_toArray, List.getElem_cons_zero, List.getElem_cons_succ, List.setIfInBounds_toArray, List.set_cons_zero, List.set_cons_succ])
    refine wpAnyH_ready (rs := [10]) (by kernel_rfl) (by simp) ?_
    refine AllReadyH.cons (o := ({ dst := some 4, op := Go.Op.assign (Go.Operand.tmp 56), type := 4, pos := "wal.go:53", after := #[{ on := 7, ground := Go.Ground.data }, { on := 9, ground := Go.Ground.chain }, { on := 0, ground := Go.Ground.phase }, { on := 1, ground := Go.Ground.phase }, { on := 2, ground := Go.Ground.phase }, { on := 3, ground := Go.Ground.phase }, { on := 4, ground := Go.Ground.phase }, { on := 5, ground := Go.Ground.phase }, { on := 6, ground := Go.Ground.phase }, { on := 7, ground := Go.Ground.phase }, { on := 8, ground := Go.Ground.phase }, { on := 9, ground := Go.Ground.phase }], guard := none } : Go.Oper)) rfl (fun K hK => ?_) AllReadyH.nil
    go_simp
    refine hK.out _ _ (by (try dsimp only); exact ⟨Ext.keeps (show Ext Wd _ from (by with_reducible (repeat (first | exact Ext.rfl_ _ | assumption | refine Ext.drew ?_ | refine Ext.drewN ?_ _ | refine Ext.alloc ?_ _ | refine Ext.trans ?_ (by assumption))))) _ _ _ i1, Ext.keeps (show Ext Wd _ from (by with_reducible (repeat (first | exact Ext.rfl_ _ | assumption | refine Ext.drew ?_ | refine Ext.drewN ?_ _ | refine Ext.alloc ?_ _ | refine Ext.trans ?_ (by assumption))))) _ _ _ i3, Ext.keeps (show Ext Wd _ from (by with_reducible (repeat (first | exact Ext.rfl_ _ | assumption | refine Ext.drew ?_ | refine Ext.drewN ?_ _ | refine Ext.alloc ?_ _ | refine Ext.trans ?_ (by assumption))))) _ _ _ i5⟩) (fun hHeld => ?_)
    clear hK K
    (try simp only [Act.put, List.getElem_toArray, List.getElem_cons_zero, List.getElem_cons_succ, List.setIfInBounds_toArray, List.set_cons_zero, List.set_cons_succ])
    refine wpAnyH_done (by kernel_rfl) ?_ _
    all_goals
      gi_wp2
      have XE : Ext Wd w9 := Ext.trans (show Ext Wd Wd.drew from (by with_reducible (repeat (first | exact Ext.rfl_ _ | assumption | refine Ext.drew ?_ | refine Ext.drewN ?_ _ | refine Ext.alloc ?_ _ | refine Ext.trans ?_ (by assumption))))) hw9
      simp only [Exit.noGoto]
      have hD2 : w9.heap[w.heap.size + 1 + 1 + 1 + 1]? = some (.deferred (some [])) := ((Ext.below XE).block _ (Array.getElem?_eq_some_iff.1 HD.out).1).trans HD.out
      refine ⟨by simp, .inl ⟨_, _, rfl, run_takeDeferred hD2, ?_⟩⟩
      have k2 := (Kept.of_ext (X := fun k => k ≠ w.heap.size + 1 + 1 + 1 + 1) XE).trans (Kept.putObj (fun k => k ≠ w.heap.size + 1 + 1 + 1 + 1) w9 (w.heap.size + 1 + 1 + 1 + 1) (.deferred none) (by simp))
      refine ⟨.tuple #[.slice Av nv cv, .int .i64 (endF (frs b) : Nat), .bool (!oddF b)], ?_, ⟨.slice Av nv cv, ?_, ?_, k2.ext_of HXD.out (fun k hk => by omega)⟩⟩
      · simp [results, Try.f19, go_sem]
      · rw [HSZ.out, HG.out.2.1]; rfl
      · rw [HG.out.1]
        exact ((HR.out.own.ext XE).kx (T := 3) (Kx.putDef hD2 _) (by decide) (by decide) (by decide)).low (by omega)
  · rintro code pre T Wd hp ⟨rfl, l, v, hI⟩ hD
    have hg := batW_of hI.gw
    have HG := Lib.hid hg
    have HSZ := Lib.hid hg.2.2
    have HR := Lib.hid hI.row
    have HXD := Lib.hid hI.ext
    obtain ⟨i1, i3, i5, -, -, -, -, -⟩ := id hI
    rw [hz5] at hD
    have HD := Lib.hid hD
    obtain ⟨Av, nv, cv, rfl⟩ := OwnLB.slice hI.row.1
    clear hg hI hD hx
    gi_wp2
    refine wpIn_wide.2 ?_
    refine wp_region_held_drew (S := (fun W => W.cell? ⟨w.heap.size, 0, none⟩ = some (.slice Av nv cv) ∧ W.cell? ⟨w.heap.size + 1, 0, none⟩ = some (.int .i64 (endF ((frs b).take l.length) : Nat)) ∧ W.cell? ⟨w.heap.size + 1 + 1, 0, none⟩ = some (.bool false))) (by kernel_rfl) (by (try dsimp only); exact ⟨Ext.keeps (show Ext Wd _ from (by with_reducible (repeat (first | exact Ext.rfl_ _ | assumption | refine Ext.drew ?_ | refine Ext.drewN ?_ _ | refine Ext.alloc ?_ _ | refine Ext.trans ?_ (by assumption))))) _ _ _ i1, Ext.keeps (show Ext Wd _ from (by with_reducible (repeat (first | exact Ext.rfl_ _ | assumption | refine Ext.drew ?_ | refine Ext.drewN ?_ _ | refine Ext.alloc ?_ _ | refine Ext.trans ?_ (by assumption))))) _ _ _ i3, Ext.keeps (show Ext Wd _ from (by with_reducible (repeat (first | exact Ext.rfl_ _ | assumption | refine Ext.drew ?_ | refine Ext.drewN ?_ _ | refine Ext.alloc ?_ _ | refine Ext.trans ?_ (by assumption))))) _ _ _ i5⟩) (fun hHeld => ?_)
    refine wpAnyH_take (i := 0) (oi := ({ dst := some 49, op := Go.Op.load 26 (Go.Operand.tmp 5), type := 26, pos := "wal.go:53", after := #[], guard := none } : Go.Oper)) (v := ?v140) rfl (by kernel_rfl) (by kernel_rfl) (by kernel_rfl) (fun _ _ _ h => batchesQ (by decide) (by decide) (by decide) h) (Or.inl ⟨by rfl, ?hy140⟩) (by assumption) ?rest140
    case hy140 => (intro w hSw; (try dsimp only at hSw); go_simp; (try with_reducible rfl))
    (try simp only [Act.put, List.getElem_toArray, List.getElem_cons_zero, List.getElem_cons_succ, List.setIfInBounds_toArray, List.set_cons_zero, List.set_cons_succ])
    refine wpAnyH_take (i := 1) (oi := ({ dst := some 50, op := Go.Op.load 3 (Go.Operand.tmp 6), type := 3, pos := "wal.go:53", after := #[{ on := 8, ground := Go.Ground.gcOnly Go.Departure.lateStores }], guard := none } : Go.Oper)) (v := ?v141) rfl (by kernel_rfl) (by kernel_rfl) (by kernel_rfl) (fun _ _ _ h => batchesQ (by decide) (by decide) (by decide) h) (Or.inl ⟨by rfl, ?hy141⟩) (by assumption) ?rest141
    case hy141 => (intro w hSw; (try dsimp only at hSw); go_simp; (try with_reducible rfl))
    (try simp only [Act.put, List.getElem_toArray, List.getElem_cons_zero, List.getElem_cons_succ, List.setIfInBounds_toArray, List.set_cons_zero, List.set_cons_succ])
    refine wpAnyH_take (i := 2) (oi := ({ dst := some 51, op := Go.Op.load 4 (Go.Operand.tmp 7), type := 4, pos := "wal.go:53", after := #[], guard := none } : Go.Oper)) (v := ?v142) rfl (by kernel_rfl) (by kernel_rfl) (by kernel_rfl) (fun _ _ _ h => batchesQ (by decide) (by decide) (by decide) h) (Or.inl ⟨by rfl, ?hy142⟩) (by assumption) ?rest142
    case hy142 => (intro w hSw; (try dsimp only at hSw); go_simp; (try with_reducible rfl))
    (try simp only [Act.put, List.getElem_toArray, List.getElem_cons_zero, List.getElem_cons_succ, List.setIfInBounds_toArray, List.set_cons_zero, List.set_cons_succ])
    refine wpAnyH_take (i := 3) (oi := ({ dst := some 52, op := Go.Op.move (Go.Operand.tmp 51), type := 4, pos := "wal.go:53", after := #[{ on := 2, ground := Go.Ground.data }], guard := none } : Go.Oper)) (v := ?v143) rfl (by kernel_rfl) (by kernel_rfl) (by kernel_rfl) (fun _ _ _ h => batchesQ (by decide) (by decide) (by decide) h) (Or.inl ⟨by rfl, ?hy143⟩) (by assumption) ?rest143
    case hy143 => (intro w hSw; (try dsimp only at hSw); go_simp; (try with_reducible rfl))
    (try simp only [Act.put, List.getElem_toArray, List.getElem_cons_zero, List.getElem_cons_succ, List.setIfInBounds_toArray, List.set_cons_zero, List.set_cons_succ])
    refine wpAnyH_take (i := 4) (oi := ({ dst := some 53, op := Go.Op.move (Go.Operand.tmp 0), type := 29, pos := "wal.go:53", after := #[{ on := 3, ground := Go.Ground.guard }], guard := some (3, true) } : Go.Oper)) (v := undef) rfl (by kernel_rfl) (by kernel_rfl) (by kernel_rfl) (fun _ _ _ h => batchesQ (by decide) (by decide) (by decide) h) (Or.inr ⟨by rfl, rfl⟩) (by assumption) ?_
    (try simp only [Act.put, List.getElem_toArray, List.getElem_cons_zero, List.getElem_cons_succ, List.setIfInBounds_toArray, List.set_cons_zero, List.set_cons_succ])
    refine wpAnyH_take (i := 5) (oi := ({ dst := some 54, op := Go.Op.call { callee := Go.Callee.value (Go.Operand.func 44), args := #[Go.Operand.tmp 53], argTypes := #[29] }, type := 4, pos := "wal.go:53", after := #[{ on := 4, ground := Go.Ground.data }, { on := 3, ground := Go.Ground.chain }, { on := 3, ground := Go.Ground.guard }], guard := some (3, true) } : Go.Oper)) (v := undef) rfl (by kernel_rfl) (by kernel_rfl) (by kernel_rfl) (fun _ _ _ h => batchesQ (by decide) (by decide) (by decide) h) (Or.inr ⟨by rfl, rfl⟩) (by assumption) ?_
    (try simp only [Act.put, List.getElem_toArray, List.getElem_cons_zero, List.getElem_cons_succ, List.setIfInBounds_toArray, List.set_cons_zero, List.set_cons_succ])
    refine wpAnyH_take (i := 6) (oi := ({ dst := some 55, op := Go.Op.unOp Go.UnOp.not 4 (Go.Operand.tmp 54), type := 4, pos := "wal.go:53", after := #[{ on := 5, ground := Go.Ground.data }, { on := 3, ground := Go.Ground.guard }, { on := 9, ground := Go.Ground.gcOnly Go.Departure.lateStores }], guard := some (3, true) } : Go.Oper)) (v := undef) rfl (by kernel_rfl) (by kernel_rfl) (by kernel_rfl) (fun _ _ _ h => batchesQ (by decide) (by decide) (by decide) h) (Or.inr ⟨by rfl, rfl⟩) (by assumption) ?_
    (try simp only [Act.put, List.getElem_toArray, List.getElem_cons_zero, List.getElem_cons_succ, List.setIfInBounds_toArray, List.set_cons_zero, List.set_cons_succ])
    refine wpAnyH_take (i := 7) (oi := ({ dst := some 56, op := Go.Op.pick (Go.Operand.tmp 52) (Go.Operand.tmp 55) (Go.Operand.const (Go.Value.bool false)), type := 4, pos := "wal.go:53", after := #[{ on := 3, ground := Go.Ground.data }, { on := 6, ground := Go.Ground.data }, { on := 9, ground := Go.Ground.gcOnly Go.Departure.lateStores }], guard := none } : Go.Oper)) (v := ?v144) rfl (by kernel_rfl) (by kernel_rfl) (by kernel_rfl) (fun _ _ _ h => batchesQ (by decide) (by decide) (by decide) h) (Or.inl ⟨by rfl, ?hy144⟩) (by assumption) ?rest144
    case hy144 => (intro w hSw; (try dsimp only at hSw); go_simp; (try with_reducible rfl))
    (try simp only [Act.put, List.getElem_toArray, List.getElem_cons_zero, List.getElem_cons_succ, List.setIfInBounds_toArray, List.set_cons_zero, List.set_cons_succ])
    refine wpAnyH_ready (rs := [8]) (by kernel_rfl) (by simp) ?_
    refine AllReadyH.cons (o := ({ dst := some 2, op := Go.Op.assign (Go.Operand.tmp 49), type := 26, pos := "wal.go:53", after := #[{ on := 0, ground := Go.Ground.data }, { on := 5, ground := Go.Ground.chain }, { on := 0, ground := Go.Ground.phase }, { on := 1, ground := Go.Ground.textOnly Go.Departure.lateStores }, { on := 2, ground := Go.Ground.textOnly Go.Departure.lateStores }, { on := 3, ground := Go.Ground.textOnly Go.Departure.lateStores }, { on := 4, ground := Go.Ground.textOnly Go.Departure.lateStores }, { on := 5, ground := Go.Ground.textOnly Go.Departure.lateStoresUnsure }, { on := 6, ground := Go.Ground.textOnly Go.Departure.lateStores }, { on := 7, ground := Go.Ground.textOnly Go.Departure.lateStores }], guard := none } : Go.Oper)) rfl (fun K hK => ?_) AllReadyH.nil
    go_simp
    refine hK.out _ _ (by (try dsimp only); exact ⟨Ext.keeps (show Ext Wd _ from (by with_reducible (repeat (first | exact Ext.rfl_ _ | assumption | refine Ext.drew ?_ | refine Ext.drewN ?_ _ | refine Ext.alloc ?_ _ | refine Ext.trans ?_ (by assumption))))) _ _ _ i1, Ext.keeps (show Ext Wd _ from (by with_reducible (repeat (first | exact Ext.rfl_ _ | assumption | refine Ext.drew ?_ | refine Ext.drewN ?_ _ | refine Ext.alloc ?_ _ | refine Ext.trans ?_ (by assumption))))) _ _ _ i3, Ext.keeps (show Ext Wd _ from (by with_reducible (repeat (first | exact Ext.rfl_ _ | assumption | refine Ext.drew ?_ | refine Ext.drewN ?_ _ | refine Ext.alloc ?_ _ | refine Ext.trans ?_ (by assumption))))) _ _ _ i5⟩) (fun hHeld => ?_)
    clear hK K
    (try simp only [Act.put, List.getElem_toArray, List.getElem_cons_zero, List.getElem_cons_succ, List.setIfInBounds_toArray, List.set_cons_zero, List.set_cons_succ])
    refine wpAnyH_ready (rs := [9]) (by kernel_rfl) (by simp) ?_
    refine AllReadyH.cons (o := ({ dst := some 3, op := Go.Op.assign (Go.Operand.tmp 50), type := 3, pos := "wal.go:53", after := #[{ on := 1, ground := Go.Ground.data }, { on := 8, ground := Go.Ground.chain }, { on := 0, ground := Go.Ground.phase }, { on := 1, ground := Go.Ground.phase }, { on := 2, ground := Go.Ground.textOnly Go.Departure.lateStores }, { on := 3, ground := Go.Ground.textOnly Go.Departure.lateStores }, { on := 4, ground := Go.Ground.textOnly Go.Departure.lateStores }, { on := 5, ground := Go.Ground.textOnly Go.Departure.lateStoresUnsure }, { on := 6, ground := Go.Ground.textOnly Go.Departure.lateStores }, { on := 7, ground := Go.Ground.textOnly Go.Departure.lateStores }, { on := 8, ground := Go.Ground.phase }], guard := none } : Go.Oper)) rfl (fun K hK => ?_) AllReadyH.nil
    go_simp
    refine hK.out _ _ (by (try dsimp only); exact ⟨Ext.keeps (show Ext Wd _ from (by with_reducible (repeat (first | exact Ext.rfl_ _ | assumption | refine Ext.drew ?_ | refine Ext.drewN ?_ _ | refine Ext.alloc ?_ _ | refine Ext.trans ?_ (by assumption))))) _ _ _ i1, Ext.keeps (show Ext Wd _ from (by with_reducible (repeat (first | exact Ext.rfl_ _ | assumption | refine Ext.drew ?_ | refine Ext.drewN ?_ _ | refine Ext.alloc ?_ _ | refine Ext.trans ?_ (by assumption))))) _ _ _ i3, Ext.keeps (show Ext Wd _ from (by with_reducible (repeat (first | exact Ext.rfl_ _ | assumption | refine Ext.drew ?_ | refine Ext.drewN ?_ _ | refine Ext.alloc ?_ _ | refine Ext.trans ?_ (by assumption))))) _ _ _ i5⟩) (fun hHeld => ?_)
    clear hK K
    (try simp only [Act.put, List.getElem_toArray, List.getElem_cons_zero, List.getElem_cons_succ, List.setIfInBounds_toArray, List.set_cons_zero, List.set_cons_succ])
    refine wpAnyH_ready (rs := [10]) (by kernel_rfl) (by simp) ?_
    refine AllReadyH.cons (o := ({ dst := some 4, op := Go.Op.assign (Go.Operand.tmp 56), type := 4, pos := "wal.go:53", after := #[{ on := 7, ground := Go.Ground.data }, { on := 9, ground := Go.Ground.chain }, { on := 0, ground := Go.Ground.phase }, { on := 1, ground := Go.Ground.phase }, { on := 2, ground := Go.Ground.phase }, { on := 3, ground := Go.Ground.phase }, { on := 4, ground := Go.Ground.phase }, { on := 5, ground := Go.Ground.phase }, { on := 6, ground := Go.Ground.phase }, { on := 7, ground := Go.Ground.phase }, { on := 8, ground := Go.Ground.phase }, { on := 9, ground := Go.Ground.phase }], guard := none } : Go.Oper)) rfl (fun K hK => ?_) AllReadyH.nil
    go_simp
    refine hK.out _ _ (by (try dsimp only); exact ⟨Ext.keeps (show Ext Wd _ from (by with_reducible (repeat (first | exact Ext.rfl_ _ | assumption | refine Ext.drew ?_ | refine Ext.drewN ?_ _ | refine Ext.alloc ?_ _ | refine Ext.trans ?_ (by assumption))))) _ _ _ i1, Ext.keeps (show Ext Wd _ from (by with_reducible (repeat (first | exact Ext.rfl_ _ | assumption | refine Ext.drew ?_ | refine Ext.drewN ?_ _ | refine Ext.alloc ?_ _ | refine Ext.trans ?_ (by assumption))))) _ _ _ i3, Ext.keeps (show Ext Wd _ from (by with_reducible (repeat (first | exact Ext.rfl_ _ | assumption | refine Ext.drew ?_ | refine Ext.drewN ?_ _ | refine Ext.alloc ?_ _ | refine Ext.trans ?_ (by assumption))))) _ _ _ i5⟩) (fun hHeld => ?_)
    clear hK K
    (try simp only [Act.put, List.getElem_toArray, List.getElem_cons_zero, List.getElem_cons_succ, List.setIfInBounds_toArray, List.set_cons_zero, List.set_cons_succ])
    refine wpAnyH_done (by kernel_rfl) ?_ _
    all_goals
      gi_wp2
      have XE : Ext Wd Wd.drew := (by with_reducible (repeat (first | exact Ext.rfl_ _ | assumption | refine Ext.drew ?_ | refine Ext.drewN ?_ _ | refine Ext.alloc ?_ _ | refine Ext.trans ?_ (by assumption))))
      simp only [Exit.noGoto]
      have hD2 : Wd.drew.heap[w.heap.size + 1 + 1 + 1 + 1]? = some (.deferred (some [])) := ((Ext.below XE).block _ (Array.getElem?_eq_some_iff.1 HD.out).1).trans HD.out
      refine ⟨by simp, .inl ⟨_, _, rfl, run_takeDeferred hD2, ?_⟩⟩
      have k2 := (Kept.of_ext (X := fun k => k ≠ w.heap.size + 1 + 1 + 1 + 1) XE).trans (Kept.putObj (fun k => k ≠ w.heap.size + 1 + 1 + 1 + 1) Wd.drew (w.heap.size + 1 + 1 + 1 + 1) (.deferred none) (by simp))
      refine ⟨.tuple #[.slice Av nv cv, .int .i64 (endF ((frs b).take l.length) : Nat), .bool false], ?_, ⟨.slice Av nv cv, ?_, ?_, k2.ext_of HXD.out (fun k hk => by omega)⟩⟩
      · simp [results, Try.f19, go_sem]
      · rw [HSZ.out, HG.out.2.1]; rfl
      · rw [HG.out.1]
        exact ((HR.out.own.ext XE).kx (T := 3) (Kx.putDef hD2 _) (by decide) (by decide) (by decide)).low (by omega)

end Go.Proofs.Ythdahmicjlplcaa
