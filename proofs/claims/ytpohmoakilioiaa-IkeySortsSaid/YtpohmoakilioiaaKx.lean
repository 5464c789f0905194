/- Frames by type: what of the memory stays where only blocks of one type are written; entries all of whose bytes are the call's own; rows of numbers. Conditions: none. -/
import Derived.Test.YtpohmoakilioiaaKeyR
import Derived.Test.YtpohmoakilioiaaOwnH
namespace Go.Proofs.Ytpohmoakilioiaa
set_option linter.unusedSimpArgs false
set_option linter.unusedVariables false
set_option maxRecDepth 100000
open Go.RowKit

/-- All blocks but those of type T stay. -/
def Kx (T : TypeId) (w w' : World) : Prop := ∀ (t : TypeId), t ≠ T → ∀ (k : Nat) (cs : Array Value) (fr : Nat × Nat), w.heap[k]? = some (Obj.cells cs t fr) → w'.heap[k]? = some (Obj.cells cs t fr)
theorem Kx.of_ext {T : TypeId} {w w' : World} (h : Ext w w') : Kx T w w' := fun _ _ _ _ _ hk => h.blk hk
theorem Kx.trans {T : TypeId} {a b c : World} (h : Kx T a b) (k : Kx T b c) : Kx T a c := fun t ht i cs fr hi => k t ht i cs fr (h t ht i cs fr hi)
theorem Kx.of_grown {T : TypeId} {w w' : World} {row : Option Nat} (h : w.grownBy w' row) (hr : ∀ g, row = some g → ∃ cs fr, w.heap[g]? = some (.cells cs T fr)) : Kx T w w' := fun t ht k cs fr hk =>
  (h.block k (Array.getElem?_eq_some_iff.1 hk).1 (fun e => by
    obtain ⟨cs', fr', h2⟩ := hr k e.symm
    rw [hk] at h2
    simp at h2
    exact ht h2.2.1)).trans hk
theorem Kx.of_chg {T : TypeId} {w w' : World} {g : Nat} {cs : Array Value} {fr : Nat × Nat} (h : Chg g w w') (hg : w.heap[g]? = some (.cells cs T fr)) : Kx T w w' :=
  Kx.of_grown h (fun k e => by cases e; exact ⟨cs, fr, hg⟩)
theorem Kx.of_row {T : TypeId} {w w' : World} {base size n : Nat} {v : Value} {xs : List Value} (h : w.grownBy w' v.ownBlock) (ho : w.ownsRow base T size v n xs) : Kx T w w' :=
  Kx.of_grown h (fun g e => by
    rcases ho.2 with ⟨rfl, _⟩ | ⟨g', cap, cur, rfl, _, hg', _⟩
    · cases e
    · simp [Value.ownBlock] at e
      subst e
      exact ⟨_, _, hg'⟩)
theorem Kx.of_rdr {w w' : World} {g : Nat} {x : Bs} (h : Chg g w w') (hr : Rdr w g x) : Kx 100 w w' := by
  obtain ⟨b, o, n, c, hg, _⟩ := hr
  exact Kx.of_chg h hg
theorem Kx.of_set {T : TypeId} {w : World} {g o : Nat} {u : Value} {cs : Array Value} {fr : Nat × Nat} (hg : w.heap[g]? = some (.cells cs T fr)) : Kx T w (w.setCell ⟨g, o, none⟩ u) :=
  Kx.of_chg ((Chg.rfl_ g w).setCell o u) hg

theorem ownsRow_kx {T e : TypeId} {w w' : World} {base size n : Nat} {v : Value} {xs : List Value} (ho : w.ownsRow base e size v n xs) (k : Kx T w w') (ht : e ≠ T) : w'.ownsRow base e size v n xs := by
  refine ⟨ho.1, ?_⟩
  rcases ho.2 with hn | ⟨g, cap, cur, hv, hb, hg, rest⟩
  · exact .inl hn
  · exact .inr ⟨g, cap, cur, hv, hb, k e ht g cur (0, 0) hg, rest⟩
theorem OwnB.kx {T : TypeId} {w w' : World} {base : Nat} {v : Value} {x : Bs} (h : OwnB w base v x) (k : Kx T w w') (ht : 5 ≠ T) : OwnB w' base v x := ownsRow_kx h.out k ht
theorem FrE.kx {T : TypeId} {w w' : World} {base : Nat} {v : Value} {x : Ent} (h : FrE w base v x) (k : Kx T w w') (ht : 5 ≠ T) : FrE w' base v x := by
  obtain ⟨A, n, c, A', n', c', rfl, o1, o2, r1, r2, a, b, c, d, e, f⟩ := h
  have k1 := o1.kx k ht
  have k2 := o2.kx k ht
  exact ⟨A, n, _, A', n', _, rfl, k1, k2, Rd.of_OwnB k1 r1.1.symm, Rd.of_OwnB k2 r2.1.symm, a, b, c, d, e, f⟩
theorem FrE.extF {w w' : World} {base : Nat} {v : Value} {x : Ent} (h : FrE w base v x) (he : Ext w w') : FrE w' base v x := h.kx (T := 3) (Kx.of_ext he) (by decide)
theorem FrE.low {w : World} {base base' : Nat} {v : Value} {x : Ent} (h : FrE w base v x) (hb : base' ≤ base) : FrE w base' v x := by
  obtain ⟨A, n, c, A', n', c', rfl, o1, o2, r1, r2, a, b, c', d, e, f⟩ := h
  exact ⟨A, n, c, A', n', _, rfl, o1.mono hb, o2.mono hb, r1, r2, a, b, c', d, e.mono hb, f.mono hb⟩
theorem Rdr.kx {T : TypeId} {w w' : World} {g : Nat} {x : Bs} (h : Rdr w g x) (k : Kx T w w') (h1 : 100 ≠ T) (h2 : 5 ≠ T) : Rdr w' g x := by
  obtain ⟨b, o, n, c, hg, ⟨hr, cs, fr, hb⟩, rest⟩ := h
  have hb' := k _ h2 _ _ _ hb
  refine ⟨b, o, n, c, k _ h1 _ _ _ hg, ⟨⟨hr.1, fun hn => ?_⟩, cs, fr, hb'⟩, rest⟩
  obtain ⟨b', o', e, hc⟩ := hr.2 hn
  cases e
  refine ⟨b, o, rfl, fun j hj => ?_⟩
  have := hc j hj
  unfold World.cell? at *
  rw [hb'] ; rw [hb] at this; exact this

/-- The value owns, from block 'base' on, a row of just these entries, whose bytes all lie from 'base' on. -/
def OwnF (w : World) (base : Nat) (v : Value) (xs : List Ent) : Prop :=
  ∃ hs : List Hdr, hs.length = xs.length ∧ w.ownsRow base 25 4 v xs.length (rowE hs xs) ∧ ∀ k (h1 : k < hs.length) (h2 : k < xs.length), FrE w base (.agg (cellsE hs[k] xs[k]).toArray) xs[k]
theorem OwnF.nil (w : World) (base : Nat) : OwnF w base (.slice none 0 0) [] := ⟨[], rfl, World.ownsRow_nil _ _ _ _, fun k h1 => absurd h1 (by simp)⟩
theorem OwnF.kx {T : TypeId} {w w' : World} {base : Nat} {v : Value} {xs : List Ent} (h : OwnF w base v xs) (k : Kx T w w') (h1 : 25 ≠ T) (h2 : 5 ≠ T) : OwnF w' base v xs := by
  obtain ⟨hs, hl, ho, hr⟩ := h
  exact ⟨hs, hl, ownsRow_kx ho k h1, fun i i1 i2 => (hr i i1 i2).kx k h2⟩
theorem OwnF.ext {w w' : World} {base : Nat} {v : Value} {xs : List Ent} (h : OwnF w base v xs) (e : Ext w w') : OwnF w' base v xs :=
  h.kx (T := 3) (Kx.of_ext e) (by decide) (by decide)
theorem OwnF.low {w : World} {base base' : Nat} {v : Value} {xs : List Ent} (h : OwnF w base v xs) (hb : base' ≤ base) : OwnF w base' v xs := by
  obtain ⟨hs, hl, ho, hr⟩ := h
  refine ⟨hs, hl, ⟨ho.1, ?_⟩, fun i i1 i2 => (hr i i1 i2).low hb⟩
  rcases ho.2 with hn | ⟨g, cap, cur, e, hg, rest⟩
  · exact .inl hn
  · exact .inr ⟨g, cap, cur, e, Nat.le_trans hb hg, rest⟩
theorem FrE.elt' {w : World} {base base' : Nat} {h : Hdr} {x : Ent} (f : FrE w base' (.agg (cellsE h x).toArray) x) : Elt w base h x := by
  have hr := f.rd
  obtain ⟨A', n', c', B', m', d', hv, o1, o2, _⟩ := f
  simp [cellsE] at hv
  obtain ⟨⟨e1, e2, e3⟩, e4, e5, e6⟩ := hv
  exact ⟨hr, by rw [e1, e2]; exact Apt.own o1, by rw [e4, e5]; exact Apt.own o2⟩
theorem OwnF.ownL {w : World} {base : Nat} {v : Value} {xs : List Ent} (h : OwnF w base v xs) : OwnL w base v xs := by
  obtain ⟨hs, hl, ho, hr⟩ := h
  exact ⟨hs, hl, ho, fun i i1 i2 => (hr i i1 i2).elt'⟩
theorem OwnF.lt {w : World} {base : Nat} {v : Value} {xs : List Ent} (h : OwnF w base v xs) : ∀ k, v.ownBlock = some k → base ≤ k ∧ k < w.heap.size := h.ownL.lt

/-- 'append(out, x)' of one entry of the call's own, as a region's operation. -/
theorem step_appF {ops : Array Oper} {o : Oper} {a : Act} {w : World} {K : Act → World → Prop} {Q : Exit → Act → World → Prop} {E : Prop} (hgd : o.guard = none) (s x : Operand)
    (ho : o.op = .call { callee := .builtin .append, args := #[s, x], argTypes := #[42, 42] })
    (base : Nat) (v : Value) (xs : List Ent) (hsv : a.eval s = v) (w0 : World) (t : TypeId) (h : Hdr) (y : Ent) (hw : w = w0.alloc (.cells #[.slice h.A h.n h.c, .int .i64 y.seq, .int .i64 y.kind, .slice h.B h.m h.d] t)) (hown : OwnF w0 base v xs) (hf : FrE w0 base (.agg (cellsE h y).toArray) y) (hx : a.eval x = .slice (some ⟨w0.heap.size, 0, none⟩) 1 1)
    (hsz : xs.length ≤ 1000000) (hbase : base ≤ w0.heap.size)
    (hk : ∀ v' w', OwnF w' base v' (xs ++ [y]) → Kx 25 w0 w' → w.grownBy w' v.ownBlock → K (a.put o.dst v') w') :
    if Region.wanted o (yielded ops a.tmps) = true then Oper.wp Try.prog o a w K Q else E := by
  have hwt : Region.wanted o (yielded ops a.tmps) = true := by simp [Region.wanted, hgd]
  rw [if_pos hwt]
  subst hw
  have e0 : Ext w0 (w0.alloc (.cells #[.slice h.A h.n h.c, .int .i64 y.seq, .int .i64 y.kind, .slice h.B h.m h.d] t)) := (by with_reducible (repeat (first | exact Ext.rfl_ _ | assumption | refine Ext.drew ?_ | refine Ext.drewN ?_ _ | refine Ext.alloc ?_ _ | refine Ext.trans ?_ (by assumption))))
  obtain ⟨hs, hl, hrow, hr⟩ := hown.ext e0
  have hH : OwnH (w0.alloc (.cells #[.slice h.A h.n h.c, .int .i64 y.seq, .int .i64 y.kind, .slice h.B h.m h.d] t)) base v hs xs := ⟨hl, hrow, fun i i1 i2 => (hr i i1 i2).elt'⟩
  obtain ⟨v', w', hrun, h1, h2, h3⟩ := run_appH _ o.type base v hs xs hH (some ⟨w0.heap.size, 0, none⟩) 1 1 [h] [y] (RdH.one t hf.elt') (by unfold B41; simp <;> omega) (by rw [World.size_alloc]; omega)
  have kk : Kx 25 (w0.alloc (.cells #[.slice h.A h.n h.c, .int .i64 y.seq, .int .i64 y.kind, .slice h.B h.m h.d] t)) w' := Kx.of_row h2 hrow
  unfold Oper.wp
  simp [execOp, ho, resolve, invoke, builtin, hsv, hx, hrun, Result.andThen]
  refine hk v' w' ⟨hs ++ [h], h1.1, h1.2.1, fun i i1 i2 => ?_⟩ ((Kx.of_ext e0).trans kk) h2
  by_cases hi : i < hs.length
  · rw [List.getElem_append_left hi, List.getElem_append_left (by omega)]
    exact (hr i hi (by omega)).kx kk (by decide)
  · have e : i = hs.length := by simp at i1; omega
    subst e
    simp [hl]
    exact (hf.kx (T := 25) (Kx.of_ext e0) (by decide)).kx kk (by decide)

/-- 'append(out, x)' of one entry of the call's own. -/
theorem wp_appF {ops : Array Oper} {rest : List Oper} {o : Oper} {a : Act} {w : World} {Q : Exit → Act → World → Prop} (hgd : o.guard = none) (s x : Operand)
    (ho : o.op = .call { callee := .builtin .append, args := #[s, x], argTypes := #[42, 42] })
    (base : Nat) (v : Value) (xs : List Ent) (hsv : a.eval s = v) (w0 : World) (t : TypeId) (h : Hdr) (y : Ent) (hw : w = w0.alloc (.cells #[.slice h.A h.n h.c, .int .i64 y.seq, .int .i64 y.kind, .slice h.B h.m h.d] t)) (hown : OwnF w0 base v xs) (hf : FrE w0 base (.agg (cellsE h y).toArray) y) (g : Nat) (hg : w0.heap.size = g) (hx : a.eval x = .slice (some ⟨g, 0, none⟩) 1 1)
    (hsz : xs.length ≤ 1000000) (hbase : base ≤ w0.heap.size)
    (hk : ∀ v' w', OwnF w' base v' (xs ++ [y]) → Kx 25 w0 w' → w.grownBy w' v.ownBlock → wpList Try.prog ops Q rest (a.put o.dst v') w') : wpList Try.prog ops Q (o :: rest) a w := by
  refine wpList_plain hgd fun K hK => ?_
  subst hg
  have := step_appF (ops := ops) (o := o) (a := a) (w := w) (K := K) (Q := Q) (E := True) hgd s x ho base v xs hsv w0 t h y hw hown hf hx hsz hbase (fun v' w' h1 h2 h3 => hK _ _ (hk v' w' h1 h2 h3))
  have hwt : Region.wanted o (yielded ops a.tmps) = true := by simp [Region.wanted, hgd]
  rwa [if_pos hwt] at this

/-- A row of numbers of the call's own. -/
def OwnI (w : World) (base : Nat) (v : Value) (ps : List Int) : Prop := w.ownsRow base 3 1 v ps.length (ps.map fun p => .int .i64 p)
theorem OwnI.nil (w : World) (base : Nat) : OwnI w base (.slice none 0 0) [] := World.ownsRow_nil _ _ _ _
theorem OwnI.kx {T : TypeId} {w w' : World} {base : Nat} {v : Value} {ps : List Int} (h : OwnI w base v ps) (k : Kx T w w') (ht : 3 ≠ T) : OwnI w' base v ps := ownsRow_kx h k ht
theorem OwnI.ext {w w' : World} {base : Nat} {v : Value} {ps : List Int} (h : OwnI w base v ps) (e : Ext w w') : OwnI w' base v ps := h.kx (T := 5) (Kx.of_ext e) (by decide)
theorem Try.infoI : (Try.prog.info? 3).map (fun i => (i.zero, i.size, i.bytes)) = some (some (.int .i64 0), 1, 8) := by kernel_rfl
theorem run_appI (w : World) (ty : TypeId) (base : Nat) (v : Value) (ps : List Int) (hown : OwnI w base v ps) (w0 : World) (t : TypeId) (p : Int) (hw : w = w0.alloc (.cells #[.int .i64 p] t)) (hsz : ps.length ≤ 1000000) (hbase : base ≤ w.heap.size) :
    ∃ v' w', (Builtin.append_ #[94, 94] ty #[v, .slice (some ⟨w0.heap.size, 0, none⟩) 1 1]).run Try.prog w = .ok v' w' ∧ OwnI w' base v' (ps ++ [p]) ∧ w.grownBy w' v.ownBlock ∧ Kx 3 w w' := by
  obtain ⟨i0, hi, hz0, hz1, hz2⟩ := info_parts Try.infoI
  have hnews : ∀ j u, ([Value.int .i64 p])[j]? = some u → w.cell? ((⟨w0.heap.size, 0, none⟩ : Addr).add j) = some u := by
    intro j u hj
    match j with
    | 0 =>
      simp at hj
      subst hj hw
      have hb := heap_alloc_new w0 (.cells #[.int .i64 p] t)
      have e2 : (⟨w0.heap.size, 0, none⟩ : Addr).add 0 = ⟨w0.heap.size, 0, none⟩ := by simp [Addr.add]
      rw [e2]
      simp only [World.cell?, hb]
      rfl
    | j + 1 => simp at hj
  obtain ⟨v', w', hrun, h1, h2, h3⟩ := run_append_own (P := Try.prog) w base 94 ty 3 i0 _ 1 8 Try.underlying94 hi hz0 hz1 hz2 rfl (by decide) v ps.length (ps.map fun p => .int .i64 p) hown ⟨w0.heap.size, 0, none⟩ 1 1 [.int .i64 p] rfl hnews
    (by intro u hu; simp at hu; subst hu; rfl) (by unfold maxLen; omega) (by omega) hbase
  refine ⟨v', w', hrun, ?_, h2, Kx.of_row h2 hown⟩
  unfold OwnI
  rw [List.length_append, List.map_append]
  exact h1
/-- 'append(out, n)' of one number as a region's operation. -/
theorem step_appI {ops : Array Oper} {o : Oper} {a : Act} {w : World} {K : Act → World → Prop} {Q : Exit → Act → World → Prop} {E : Prop} (hgd : o.guard = none) (s x : Operand)
    (ho : o.op = .call { callee := .builtin .append, args := #[s, x], argTypes := #[94, 94] })
    (base : Nat) (v : Value) (ps : List Int) (hsv : a.eval s = v) (w0 : World) (t : TypeId) (p : Int) (hw : w = w0.alloc (.cells #[.int .i64 p] t)) (hown : OwnI w base v ps) (hx : a.eval x = .slice (some ⟨w0.heap.size, 0, none⟩) 1 1)
    (hsz : ps.length ≤ 1000000) (hbase : base ≤ w.heap.size)
    (hk : ∀ v' w', OwnI w' base v' (ps ++ [p]) → Kx 3 w w' → w.grownBy w' v.ownBlock → K (a.put o.dst v') w') :
    if Region.wanted o (yielded ops a.tmps) = true then Oper.wp Try.prog o a w K Q else E := by
  have hwt : Region.wanted o (yielded ops a.tmps) = true := by simp [Region.wanted, hgd]
  rw [if_pos hwt]
  obtain ⟨v', w', hrun, h1, h2, h3⟩ := run_appI w o.type base v ps hown w0 t p hw hsz hbase
  unfold Oper.wp
  simp [execOp, ho, resolve, invoke, builtin, hsv, hx, hrun, Result.andThen]
  exact hk v' w' h1 h3 h2
/-- 'append(out, n)' of one number. -/
theorem wp_appI {ops : Array Oper} {rest : List Oper} {o : Oper} {a : Act} {w : World} {Q : Exit → Act → World → Prop} (hgd : o.guard = none) (s x : Operand)
    (ho : o.op = .call { callee := .builtin .append, args := #[s, x], argTypes := #[94, 94] })
    (base : Nat) (v : Value) (ps : List Int) (hsv : a.eval s = v) (w0 : World) (t : TypeId) (p : Int) (hw : w = w0.alloc (.cells #[.int .i64 p] t)) (hown : OwnI w base v ps) (hx : a.eval x = .slice (some ⟨w0.heap.size, 0, none⟩) 1 1)
    (hsz : ps.length ≤ 1000000) (hbase : base ≤ w.heap.size)
    (hk : ∀ v' w', OwnI w' base v' (ps ++ [p]) → Kx 3 w w' → w.grownBy w' v.ownBlock → wpList Try.prog ops Q rest (a.put o.dst v') w') : wpList Try.prog ops Q (o :: rest) a w := by
  refine wpList_plain hgd fun K hK => ?_
  obtain ⟨v', w', hrun, h1, h2, h3⟩ := run_appI w o.type base v ps hown w0 t p hw hsz hbase
  unfold Oper.wp
  simp [execOp, ho, resolve, invoke, builtin, hsv, hx, hrun, Result.andThen]
  exact hK _ _ (hk v' w' h1 h3 h2)

end Go.Proofs.Ytpohmoakilioiaa
