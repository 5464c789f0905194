/- merge.collect: what an iterator goes over, in new memory; appends within a fence. Conditions: the iterator's contract. -/
import Derived.Test.YtmmoopioiheleaaMgO
import Derived.Test.YtmmoopioiheleaaAppBlk
import Derived.Test.YtmmoopioiheleaaRegR
namespace Go.Proofs.Ytmmoopioiheleaa
set_option linter.unusedSimpArgs false
set_option linter.unusedVariables false
open Go.RowKit Go.Shelf
attribute [local go_sem] Oper.semAt_some

theorem stepIn_append {F : Fence} {n : Nat} {ops : Array Oper} {o : Oper} {a : Act} {w w' : World} {K : Act → World → Prop} {Q : Exit → Act → World → Prop} {E : Prop} {ts : Array TypeId} (hgd : o.guard = none) (s x : Operand)
    (ho : o.op = .call { callee := .builtin .append, args := #[s, x], argTypes := ts }) (v y v' : Value) (hsv : a.eval s = v) (hx : a.eval x = y)
    (hrun : (Builtin.append_ ts o.type #[v, y]).run Try.prog w = .ok v' w') (hk : K (a.put o.dst v') w') :
    if Region.wanted o (yielded ops a.tmps) = true then Oper.wpIn F n Try.prog o a w K Q else E := by
  have hwt : Region.wanted o (yielded ops a.tmps) = true := by simp [Region.wanted, hgd]
  rw [if_pos hwt]
  unfold Oper.wpIn
  refine ⟨?_, ?_⟩
  · simp [Oper.about, ho, resolve, Target.leads, Sem.run_pure]
  · rw [Oper.semAt_plain F _ _ (by rw [ho]; intro c hc'; cases hc')]
    simp [execOp, ho, resolve, invoke, builtin, hsv, hx, hrun, Result.andThen]
    exact hk

/-- 'append(out, x)' of one entry of the call's own, as a region's operation within a fence. -/
theorem stepIn_appF {F : Fence} {n : Nat} {ops : Array Oper} {o : Oper} {a : Act} {w : World} {K : Act → World → Prop} {Q : Exit → Act → World → Prop} {E : Prop} (hgd : o.guard = none) (s x : Operand)
    (ho : o.op = .call { callee := .builtin .append, args := #[s, x], argTypes := #[22, 22] })
    (base : Nat) (v : Value) (xs : List Ent) (hsv : a.eval s = v) (w0 : World) (t : TypeId) (h : Hdr) (y : Ent) (hw : w = w0.alloc (.cells #[.slice h.A h.n h.c, .int .i64 y.seq, .int .i64 y.kind, .slice h.B h.m h.d] t)) (hown : OwnF w0 base v xs) (hf : FrE w0 base (.agg (cellsE h y).toArray) y) (hx : a.eval x = .slice (some ⟨w0.heap.size, 0, none⟩) 1 1)
    (hsz : xs.length ≤ 1000000) (hbase : base ≤ w0.heap.size)
    (hk : ∀ v' w', OwnF w' base v' (xs ++ [y]) → Kx 37 w0 w' → w.grownBy w' v.ownBlock → (∀ k, v'.ownBlock = some k → v.ownBlock = some k ∨ w0.heap.size ≤ k) → K (a.put o.dst v') w') :
    if Region.wanted o (yielded ops a.tmps) = true then Oper.wpIn F n Try.prog o a w K Q else E := by
  subst hw
  have e0 : Ext w0 (w0.alloc (.cells #[.slice h.A h.n h.c, .int .i64 y.seq, .int .i64 y.kind, .slice h.B h.m h.d] t)) := (by with_reducible (repeat (first | exact Ext.rfl_ _ | assumption | refine Ext.drew ?_ | refine Ext.drewN ?_ _ | refine Ext.alloc ?_ _ | refine Ext.trans ?_ (by assumption))))
  obtain ⟨hs, hl, hrow, hr⟩ := hown.ext e0
  have hH : OwnH (w0.alloc (.cells #[.slice h.A h.n h.c, .int .i64 y.seq, .int .i64 y.kind, .slice h.B h.m h.d] t)) base v hs xs := ⟨hl, hrow, fun i i1 i2 => (hr i i1 i2).elt'⟩
  obtain ⟨v', w', hrun, h1, h2, h3⟩ := run_appH _ o.type base v hs xs hH (some ⟨w0.heap.size, 0, none⟩) 1 1 [h] [y] (RdH.one t hf.elt') (by unfold B41; simp <;> omega) (by rw [World.size_alloc]; omega)
  have kk : Kx 37 (w0.alloc (.cells #[.slice h.A h.n h.c, .int .i64 y.seq, .int .i64 y.kind, .slice h.B h.m h.d] t)) w' := Kx.of_row h2 hrow
  refine stepIn_append hgd s x ho v _ v' hsv hx hrun (hk v' w' ⟨hs ++ [h], h1.1, h1.2.1, fun i i1 i2 => ?_⟩ ((Kx.of_ext e0).trans kk) h2 ?_)
  · by_cases hi : i < hs.length
    · rw [List.getElem_append_left hi, List.getElem_append_left (by omega)]
      exact (hr i hi (by omega)).kx kk (by decide)
    · have e : i = hs.length := by simp at i1; omega
      subst e
      simp [hl]
      exact (hf.kx (T := 37) (Kx.of_ext e0) (by decide)).kx kk (by decide)
  · obtain ⟨i0, hi, hz0, hz1, hz2⟩ := info_parts Try.infoE
    obtain ⟨_, _, _, hsrc, _⟩ := RdH.one (base := base) t (hf.elt' (base := base))
    obtain ⟨b, o', e, hc⟩ := hsrc (by decide)
    cases e
    have := run_append_blk (P := Try.prog) _ base 22 o.type 37 i0 _ 4 64 Try.underlying22 hi hz0 hz1 hz2 rfl (by decide) v xs.length (rowE hs xs) hrow ⟨w0.heap.size, 0, none⟩ 1 1 (rowE [h] [y]) rfl (fun j u hu => by
      have e2 : (⟨w0.heap.size, 0, none⟩ : Addr).add j = ⟨w0.heap.size, 0 + j, none⟩ := by unfold Addr.add; split <;> simp_all
      rw [e2]; exact hc j u hu) rowE_one (by unfold maxLen; omega) (by omega) hrun
    intro k hk
    rcases this k hk with h | h
    · exact .inl h
    · rw [World.size_alloc] at h; exact .inr (by omega)

theorem U8.of_kept {l : Nat} {a b : World} (h : Kept (fun k => k ≠ l) a b) (hl : ∃ r, a.heap[l]? = some (.loop r)) : U8 a b := fun k cs fr e => by
  obtain ⟨r, hr⟩ := hl
  by_cases hk : k = l
  · subst hk; rw [hr] at e; cases e
  · exact (h.block k (Array.getElem?_eq_some_iff.1 e).1 hk).trans e
theorem U8.of_kx {T : TypeId} {a b : World} (h : Kx T a b) (ht : 5 ≠ T) : U8 a b := fun k cs fr e => h _ ht k cs fr e

theorem frE_cells {w : World} {base : Nat} {v : Value} {x : Ent} (h : FrE w base v x) : ∃ A n c B m d, v = .agg #[.slice A n c, .int .i64 x.seq, .int .i64 x.kind, .slice B m d] ∧ FrE w base (.agg (cellsE ⟨A, n, c, B, m, d⟩ x).toArray) x := by
  have h' := h
  obtain ⟨A, n, c, B, m, d, rfl, _⟩ := h
  exact ⟨A, n, c, B, m, d, rfl, h'⟩
theorem Elt.rdE {w : World} {base : Nat} {h : Hdr} {x : Ent} (e : Elt w base h x) : RdE w (.agg #[.slice h.A h.n h.c, .int .i64 x.seq, .int .i64 x.kind, .slice h.B h.m h.d]) x := e.1

theorem Kept.grownX {X : Nat → Prop} {a b : World} {row : Option Nat} (h : a.grownBy b row) (hx : ∀ g, row = some g → ¬ X g) : Kept X a b :=
  ⟨h.os, h.tape, h.output, h.size, fun k hk hX => h.block k hk (fun e => hx k e.symm hX)⟩
theorem blk_cell {w w' : World} {g o : Nat} (h : w'.heap[g]? = w.heap[g]?) : w'.cell? ⟨g, o, none⟩ = w.cell? ⟨g, o, none⟩ := by unfold World.cell?; simp only [h]
theorem blk_frozen {w : World} {g o : Nat} {cs : Array Value} {t : TypeId} (h : w.heap[g]? = some (.cells cs t (0, 0))) : w.frozen? ⟨g, o, none⟩ = false := by unfold World.frozen?; simp [h]
theorem blk_set {w : World} {g o : Nat} {u : Value} {cs : Array Value} {t : TypeId} (h : w.heap[g]? = some (.cells cs t (0, 0))) : ∃ cs, (w.setCell ⟨g, o, none⟩ u).heap[g]? = some (.cells cs t (0, 0)) := ⟨_, by simp [World.setCell, Array.getElem?_modify, h]; rfl⟩

/-- What was collected. -/
structure ColI (w : World) (pre : List Ent) (T M : Nat → Prop) (Wc : World) : Prop where
  box : ∃ A n c, Wc.cell? ⟨w.heap.size, 0, none⟩ = some (.slice A n c) ∧ OwnF Wc (w.heap.size + 3) (.slice A n c) pre ∧ (∀ g, (Value.slice A n c).ownBlock = some g → ¬ T g ∧ ¬ M g)
  boxB : ∃ cs, Wc.heap[w.heap.size]? = some (.cells cs 22 (0, 0))
  ext : Ext w Wc
  size : w.heap.size + 1 ≤ Wc.heap.size
  t : ∀ k, T k → w.heap.size + 1 ≤ k
  m : ∀ k, M k → w.heap.size + 1 ≤ k
theorem ColI.kept {w : World} {pre : List Ent} {T T' M M' : Nat → Prop} {Wc W' : World} (h : ColI w pre T M Wc) (k : Kept (fun k => ¬ M k ∧ k ≠ w.heap.size + 1 ∧ k ≠ w.heap.size + 1 + 1) Wc W') (h8 : U8 Wc W')
    (ht : ∀ k, T' k → T k ∨ Wc.heap.size ≤ k) (hm : ∀ k, M' k → M k ∨ Wc.heap.size ≤ k) : ColI w pre T' M' W' := by
  obtain ⟨⟨A, n, c, h1, h2, h3⟩, ⟨cs, h4⟩, h5, h6, h7, h9⟩ := h
  have hm0 : ¬ M w.heap.size := fun h => by have := h9 _ h; omega
  have hlt := h2.lt
  refine ⟨⟨A, n, c, k.cell h1 ⟨hm0, by simp, by simp; omega⟩, h2.u8 h8 (fun g hg => k.block g (hlt g hg).2 ⟨(h3 g hg).2, by have := (hlt g hg).1; omega, by have := (hlt g hg).1; omega⟩), fun g hg => ⟨fun h => ?_, fun h => ?_⟩⟩,
    ⟨cs, (k.block _ (by omega) ⟨hm0, by omega, by omega⟩).trans h4⟩, k.ext_of h5 (fun j hj => ⟨fun h => by have := h9 j h; omega, by omega, by omega⟩), Nat.le_trans h6 k.size, fun j hj => ?_, fun j hj => ?_⟩
  · rcases ht g h with h | h
    · exact (h3 g hg).1 h
    · have := (hlt g hg).2; omega
  · rcases hm g h with h | h
    · exact (h3 g hg).2 h
    · have := (hlt g hg).2; omega
  · rcases ht j hj with h | h
    · exact h7 j h
    · omega
  · rcases hm j hj with h | h
    · exact h9 j h
    · omega

set_option maxRecDepth 100000 in
set_option maxHeartbeats 4000000 in
theorem collect_any (gf : Nat) (lb : Array Value) (es : List Ent) (w : World) (eg : ∀ args w, (callFunc gf args).run Try.prog w = .ok (.enter gf args) w)
    (hseq : ∀ (S : Nat → Prop) (W : World), (∀ k, S k → w.heap.size ≤ k) → Ext w W → SeqM Try.prog gf lb (OkM w.heap.size) S es W) (hes : es.length ≤ 1000000) :
    Calls Try.prog 20 #[.func (.func gf) #[] lb] w fun e w' => ∃ v, e = .returned v ∧ OwnF w' w.heap.size v es ∧ Ext w w' := by
  refine (callsIn_wide (n := 3)).1 ?_
  have hnil := fun (w : World) (f : Fn) (x y : Array Value) => run_eql_func_nil w 28 f x y Try.underlying28
  refine callsIn_of_wp_marks Try.func20 rfl trivial ?_ rfl
  simp only [Try.ntmps20, List.size_toArray, List.length_cons, List.length_nil, Nat.reduceAdd, Nat.reduceSub, Array.replicate_succ, Array.replicate_zero, List.push_toArray, List.append_toArray, List.nil_append, List.cons_append]
  gi_wp2
  obtain ⟨W1, hW1⟩ : ∃ W1, W1 = w.alloc (.cells #[.slice none 0 0] 22) := ⟨_, rfl⟩
  have z1 : W1.heap.size = w.heap.size + 1 := by rw [hW1, World.size_alloc]
  have x0 : Ext w W1 := by rw [hW1]; exact Ext.alloc (Ext.rfl_ _) _
  have hb1 := heap_alloc_new w (.cells #[.slice none 0 0] 22)
  rw [← hW1] at hb1
  rw [← hW1]
  refine range_lawM (gf := gf) (lb := lb) rfl eg (hseq (fun k => k = w.heap.size) W1 (by rintro k rfl; exact Nat.le_refl _) x0) (Ext.rfl_ _) ?_ ?_
    (ColI w) (fun _ _ _ _ _ => False) ?_ ?_ ?_ ?_ ?_ ?_
  · rintro x vs M W ⟨q, rfl, _⟩; rfl
  · rintro k rfl; omega
  · rw [z1]
    intro pre T T' M M' Wa Wb h hk h8 hs hn hms hmn
    exact h.kept hk h8 hn hmn
  · intro c pre T T' M M' Wa Wb h; exact h.elim
  · exact ⟨⟨none, 0, 0, by simp [World.cell?, hb1], OwnF.nil _ _, fun g h => by cases h⟩, ⟨_, hb1⟩, x0, by omega, fun _ h => h.elim, fun _ h => h.elim⟩
  · rintro l2 m pre x vs T M Wc rfl hI hpre ⟨q, rfl, hel⟩ hT hMT hz hlo
    rw [z1] at hT hz hlo
    have hpl : pre.length ≤ 1000000 := by have := hpre.length_le; simp at this; omega
    simp only [List.zip_toArray, List.zip_cons_cons, List.zip_nil_right, List.foldl_toArray', List.foldl_cons, List.foldl_nil]
    have hI0 := Lib.hid hI
    have HE := Lib.hid hel.rdE
    clear hI hpre hel
    unfold cellsE
    gi_wp2
    have xb : Ext Wc (Wc.alloc (.cells #[.slice q.A q.n q.c, .int .i64 x.seq, .int .i64 x.kind, .slice q.B q.m q.d] 37)) := (by with_reducible (repeat (first | exact Ext.rfl_ _ | assumption | refine Ext.drew ?_ | refine Ext.drewN ?_ _ | refine Ext.alloc ?_ _ | refine Ext.trans ?_ (by assumption))))
    refine ⟨xb, fun W2 kp2 => ?_⟩
    rw [z1] at kp2
    have hbx := kp2.block Wc.heap.size (by simp) (by omega)
    rw [blk1] at hbx
    have hlo2 : ∃ r, (Wc.alloc (.cells #[.slice q.A q.n q.c, .int .i64 x.seq, .int .i64 x.kind, .slice q.B q.m q.d] 37)).heap[w.heap.size + 1 + 1]? = some (.loop r) := hlo.imp fun r h => ((Ext.below xb).block _ (Array.getElem?_eq_some_iff.1 h).1).trans h
    have hI2 := (hI0.out.kept (T' := T) (M' := M) (Kept.of_ext xb) (U8.of_ext xb) (fun _ h => .inl h) (fun _ h => .inl h)).kept (T' := T) (M' := M) (kp2.mono fun k hk => hk.2.2) (U8.of_kept kp2 hlo2) (fun _ h => .inl h) (fun _ h => .inl h)
    have hE2 := (HE.out.ext xb).kept kp2 hlo2
    obtain ⟨r0, r1, r2, r3, _, _, _, _⟩ := box4 hbx (Ext.rfl_ W2)
    obtain ⟨⟨A, n, c, i1, i2, i3⟩, ⟨cs, i4⟩, i5, i6, i7, i8⟩ := id hI2
    have HO := Lib.hid i2
    have HI2 := Lib.hid hI2
    have HE2 := Lib.hid hE2
    have HB := Lib.hid i4
    have HR := Lib.hid i3
    have hz2 : w.heap.size + 3 ≤ W2.heap.size := by have := kp2.size; rw [World.size_alloc] at this; omega
    have hz2c : Wc.heap.size ≤ W2.heap.size := by have := kp2.size; rw [World.size_alloc] at this; omega
    clear hI2 hE2 kp2 xb hlo hlo2 i2 i3 i4 i7 i8 HE
    gi_wp2
    refine wpIn_region_rnd (by kernel_rfl) (by kernel_rfl) rfl ?_
    (try (change wpAnyIn _ _ _ _ _ _ _ _ _ (World.drew _)))
    refine wpAnyIn_ready (rs := [0, 1]) (by kernel_rfl) (by simp) ?_
    refine AllReadyIn.cons (o := ({ dst := some 9, op := Go.Op.load 22 (Go.Operand.tmp 3), type := 22, pos := "merge.go:20", after := #[], guard := none } : Go.Oper)) rfl (fun K hK => ?one1) ?more1
    case' one1 =>
      go_simp
      refine hK _ _ ?_
      clear hK K
      (try simp only [Act.put, List.getElem_toArray, List.getElem_cons_zero, List.getElem_cons_succ, List.setIfInBounds_toArray, List.set_cons_zero, List.set_cons_succ])
      refine wpAnyIn_ready (rs := [1]) (by kernel_rfl) (by simp) ?_
      refine AllReadyIn.cons (o := ({ dst := some 10, op := Go.Op.load 37 (Go.Operand.tmp 4), type := 37, pos := "merge.go:20", after := #[], guard := none } : Go.Oper)) rfl (fun K hK => ?_) AllReadyIn.nil
      go_simp
      refine hK _ _ ?_
      clear hK K
      (try simp only [Act.put, List.getElem_toArray, List.getElem_cons_zero, List.getElem_cons_succ, List.setIfInBounds_toArray, List.set_cons_zero, List.set_cons_succ])
      refine wpAnyIn_ready (rs := [2]) (by kernel_rfl) (by simp) ?_
      refine AllReadyIn.cons (o := ({ dst := some 11, op := Go.Op.call { callee := Go.Callee.value (Go.Operand.func 34), args := #[Go.Operand.tmp 10], argTypes := #[37] }, type := 37, pos := "merge.go:20", after := #[{ on := 1, ground := Go.Ground.data }], guard := none } : Go.Oper)) rfl (fun K hK => ?_) AllReadyIn.nil
      go_simp
      refine ⟨trivial, fun h => (by simp [Fence.wide] at h), ?_⟩; refine (callsIn_wide.2 (copyF_any _ x _ (HE2.out.ext (by with_reducible (repeat (first | exact Ext.rfl_ _ | assumption | refine Ext.drew ?_ | refine Ext.drewN ?_ _ | refine Ext.alloc ?_ _ | refine Ext.trans ?_ (by assumption))))))).mono ?_; rintro e w3 ⟨v3, rfl, hf3, hw3⟩; obtain ⟨A5, n5, c5, B5, m5, d5, rfl, hfe⟩ := frE_cells hf3; have X23 := Lib.hid (show Ext W2 w3 from (by with_reducible (repeat (first | exact Ext.rfl_ _ | assumption | refine Ext.drew ?_ | refine Ext.drewN ?_ _ | refine Ext.alloc ?_ _ | refine Ext.trans ?_ (by assumption))))); have i1q := X23.out.keeps _ _ _ i1; have i1z := (X23.out.trans (Ext.alloc (Ext.rfl_ _) (.cells #[.slice A5 n5 c5, .int .i64 x.seq, .int .i64 x.kind, .slice B5 m5 d5] 37))).keeps _ _ _ i1
      refine hK _ _ ?_
      clear hK K
      (try simp only [Act.put, List.getElem_toArray, List.getElem_cons_zero, List.getElem_cons_succ, List.setIfInBounds_toArray, List.set_cons_zero, List.set_cons_succ])
      refine wpAnyIn_ready (rs := [3]) (by kernel_rfl) (by simp) ?_
      refine AllReadyIn.cons (o := ({ dst := some 12, op := Go.Op.buildSlice 22 1 #[(0, Go.Operand.tmp 11)], type := 22, pos := "merge.go:20", after := #[{ on := 2, ground := Go.Ground.data }], guard := none } : Go.Oper)) rfl (fun K hK => ?_) AllReadyIn.nil
      go_simp
      refine hK _ _ ?_
      clear hK K
      (try simp only [Act.put, List.getElem_toArray, List.getElem_cons_zero, List.getElem_cons_succ, List.setIfInBounds_toArray, List.set_cons_zero, List.set_cons_succ])
      refine wpAnyIn_ready (rs := [4]) (by kernel_rfl) (by simp) ?_
      refine AllReadyIn.cons (o := ({ dst := some 13, op := Go.Op.call { callee := Go.Callee.builtin Go.Builtin.append, args := #[Go.Operand.tmp 9, Go.Operand.tmp 12], argTypes := #[22, 22] }, type := 22, pos := "merge.go:20", after := #[{ on := 0, ground := Go.Ground.data }, { on := 3, ground := Go.Ground.data }, { on := 2, ground := Go.Ground.chain }], guard := none } : Go.Oper)) rfl (fun K hK => ?_) AllReadyIn.nil
      refine stepIn_appF rfl _ _ rfl (w.heap.size + 3) (.slice A n c) pre rfl w3 37 ⟨A5, n5, c5, B5, m5, d5⟩ x rfl (HO.out.ext X23.out) (hfe.low hz2) rfl hpl (Nat.le_trans hz2 X23.out.size) ?_; intro v4 w4 o4 k4 g4 b4; obtain ⟨A7, n7, c7, rfl, _⟩ := o4.ownL.formN (by rw [List.length_append, List.length_singleton]; unfold B41; omega); have hb4 := k4 _ (show 22 ≠ 37 from by decide) _ _ _ (X23.out.blk HB.out); have j1 := (blk_cell (o := 0) (hb4.trans HB.out.symm)).trans i1; have j2 := blk_frozen (o := 0) hb4
      refine hK _ _ ?_
      clear hK K
      (try simp only [Act.put, List.getElem_toArray, List.getElem_cons_zero, List.getElem_cons_succ, List.setIfInBounds_toArray, List.set_cons_zero, List.set_cons_succ])
      refine wpAnyIn_ready (rs := [5]) (by kernel_rfl) (by simp) ?_
      refine AllReadyIn.cons (o := ({ dst := none, op := Go.Op.store 22 (Go.Operand.tmp 3) (Go.Operand.tmp 13), type := 0, pos := "merge.go:20", after := #[{ on := 4, ground := Go.Ground.data }, { on := 4, ground := Go.Ground.chain }, { on := 0, ground := Go.Ground.phase }, { on := 1, ground := Go.Ground.phase }, { on := 2, ground := Go.Ground.phase }, { on := 3, ground := Go.Ground.phase }, { on := 4, ground := Go.Ground.phase }], guard := none } : Go.Oper)) rfl (fun K hK => ?_) AllReadyIn.nil
      go_simp
      refine hK _ _ ?_
      clear hK K
      (try simp only [Act.put, List.getElem_toArray, List.getElem_cons_zero, List.getElem_cons_succ, List.setIfInBounds_toArray, List.set_cons_zero, List.set_cons_succ])
      refine wpAnyIn_done (by kernel_rfl) ?_ _
    case' more1 =>
      refine AllReadyIn.cons (o := ({ dst := some 10, op := Go.Op.load 37 (Go.Operand.tmp 4), type := 37, pos := "merge.go:20", after := #[], guard := none } : Go.Oper)) rfl (fun K hK => ?_) AllReadyIn.nil
      go_simp
      refine hK _ _ ?_
      clear hK K
      (try simp only [Act.put, List.getElem_toArray, List.getElem_cons_zero, List.getElem_cons_succ, List.setIfInBounds_toArray, List.set_cons_zero, List.set_cons_succ])
      refine wpAnyIn_ready (rs := [0, 2]) (by kernel_rfl) (by simp) ?_
      refine AllReadyIn.cons (o := ({ dst := some 9, op := Go.Op.load 22 (Go.Operand.tmp 3), type := 22, pos := "merge.go:20", after := #[], guard := none } : Go.Oper)) rfl (fun K hK => ?one2) ?more2
      case' one2 =>
        go_simp
        refine hK _ _ ?_
        clear hK K
        (try simp only [Act.put, List.getElem_toArray, List.getElem_cons_zero, List.getElem_cons_succ, List.setIfInBounds_toArray, List.set_cons_zero, List.set_cons_succ])
        refine wpAnyIn_ready (rs := [2]) (by kernel_rfl) (by simp) ?_
        refine AllReadyIn.cons (o := ({ dst := some 11, op := Go.Op.call { callee := Go.Callee.value (Go.Operand.func 34), args := #[Go.Operand.tmp 10], argTypes := #[37] }, type := 37, pos := "merge.go:20", after := #[{ on := 1, ground := Go.Ground.data }], guard := none } : Go.Oper)) rfl (fun K hK => ?_) AllReadyIn.nil
        go_simp
        refine ⟨trivial, fun h => (by simp [Fence.wide] at h), ?_⟩; refine (callsIn_wide.2 (copyF_any _ x _ (HE2.out.ext (by with_reducible (repeat (first | exact Ext.rfl_ _ | assumption | refine Ext.drew ?_ | refine Ext.drewN ?_ _ | refine Ext.alloc ?_ _ | refine Ext.trans ?_ (by assumption))))))).mono ?_; rintro e w3 ⟨v3, rfl, hf3, hw3⟩; obtain ⟨A5, n5, c5, B5, m5, d5, rfl, hfe⟩ := frE_cells hf3; have X23 := Lib.hid (show Ext W2 w3 from (by with_reducible (repeat (first | exact Ext.rfl_ _ | assumption | refine Ext.drew ?_ | refine Ext.drewN ?_ _ | refine Ext.alloc ?_ _ | refine Ext.trans ?_ (by assumption))))); have i1q := X23.out.keeps _ _ _ i1; have i1z := (X23.out.trans (Ext.alloc (Ext.rfl_ _) (.cells #[.slice A5 n5 c5, .int .i64 x.seq, .int .i64 x.kind, .slice B5 m5 d5] 37))).keeps _ _ _ i1
        refine hK _ _ ?_
        clear hK K
        (try simp only [Act.put, List.getElem_toArray, List.getElem_cons_zero, List.getElem_cons_succ, List.setIfInBounds_toArray, List.set_cons_zero, List.set_cons_succ])
        refine wpAnyIn_ready (rs := [3]) (by kernel_rfl) (by simp) ?_
        refine AllReadyIn.cons (o := ({ dst := some 12, op := Go.Op.buildSlice 22 1 #[(0, Go.Operand.tmp 11)], type := 22, pos := "merge.go:20", after := #[{ on := 2, ground := Go.Ground.data }], guard := none } : Go.Oper)) rfl (fun K hK => ?_) AllReadyIn.nil
        go_simp
        refine hK _ _ ?_
        clear hK K
        (try simp only [Act.put, List.getElem_toArray, List.getElem_cons_zero, List.getElem_cons_succ, List.setIfInBounds_toArray, List.set_cons_zero, List.set_cons_succ])
        refine wpAnyIn_ready (rs := [4]) (by kernel_rfl) (by simp) ?_
        refine AllReadyIn.cons (o := ({ dst := some 13, op := Go.Op.call { callee := Go.Callee.builtin Go.Builtin.append, args := #[Go.Operand.tmp 9, Go.Operand.tmp 12], argTypes := #[22, 22] }, type := 22, pos := "merge.go:20", after := #[{ on := 0, ground := Go.Ground.data }, { on := 3, ground := Go.Ground.data }, { on := 2, ground := Go.Ground.chain }], guard := none } : Go.Oper)) rfl (fun K hK => ?_) AllReadyIn.nil
        refine stepIn_appF rfl _ _ rfl (w.heap.size + 3) (.slice A n c) pre rfl w3 37 ⟨A5, n5, c5, B5, m5, d5⟩ x rfl (HO.out.ext X23.out) (hfe.low hz2) rfl hpl (Nat.le_trans hz2 X23.out.size) ?_; intro v4 w4 o4 k4 g4 b4; obtain ⟨A7, n7, c7, rfl, _⟩ := o4.ownL.formN (by rw [List.length_append, List.length_singleton]; unfold B41; omega); have hb4 := k4 _ (show 22 ≠ 37 from by decide) _ _ _ (X23.out.blk HB.out); have j1 := (blk_cell (o := 0) (hb4.trans HB.out.symm)).trans i1; have j2 := blk_frozen (o := 0) hb4
        refine hK _ _ ?_
        clear hK K
        (try simp only [Act.put, List.getElem_toArray, List.getElem_cons_zero, List.getElem_cons_succ, List.setIfInBounds_toArray, List.set_cons_zero, List.set_cons_succ])
        refine wpAnyIn_ready (rs := [5]) (by kernel_rfl) (by simp) ?_
        refine AllReadyIn.cons (o := ({ dst := none, op := Go.Op.store 22 (Go.Operand.tmp 3) (Go.Operand.tmp 13), type := 0, pos := "merge.go:20", after := #[{ on := 4, ground := Go.Ground.data }, { on := 4, ground := Go.Ground.chain }, { on := 0, ground := Go.Ground.phase }, { on := 1, ground := Go.Ground.phase }, { on := 2, ground := Go.Ground.phase }, { on := 3, ground := Go.Ground.phase }, { on := 4, ground := Go.Ground.phase }], guard := none } : Go.Oper)) rfl (fun K hK => ?_) AllReadyIn.nil
        go_simp
        refine hK _ _ ?_
        clear hK K
        (try simp only [Act.put, List.getElem_toArray, List.getElem_cons_zero, List.getElem_cons_succ, List.setIfInBounds_toArray, List.set_cons_zero, List.set_cons_succ])
        refine wpAnyIn_done (by kernel_rfl) ?_ _
      case' more2 =>
        refine AllReadyIn.cons (o := ({ dst := some 11, op := Go.Op.call { callee := Go.Callee.value (Go.Operand.func 34), args := #[Go.Operand.tmp 10], argTypes := #[37] }, type := 37, pos := "merge.go:20", after := #[{ on := 1, ground := Go.Ground.data }], guard := none } : Go.Oper)) rfl (fun K hK => ?_) AllReadyIn.nil
        go_simp
        refine ⟨trivial, fun h => (by simp [Fence.wide] at h), ?_⟩; refine (callsIn_wide.2 (copyF_any _ x _ (HE2.out.ext (by with_reducible (repeat (first | exact Ext.rfl_ _ | assumption | refine Ext.drew ?_ | refine Ext.drewN ?_ _ | refine Ext.alloc ?_ _ | refine Ext.trans ?_ (by assumption))))))).mono ?_; rintro e w3 ⟨v3, rfl, hf3, hw3⟩; obtain ⟨A5, n5, c5, B5, m5, d5, rfl, hfe⟩ := frE_cells hf3; have X23 := Lib.hid (show Ext W2 w3 from (by with_reducible (repeat (first | exact Ext.rfl_ _ | assumption | refine Ext.drew ?_ | refine Ext.drewN ?_ _ | refine Ext.alloc ?_ _ | refine Ext.trans ?_ (by assumption))))); have i1q := X23.out.keeps _ _ _ i1; have i1z := (X23.out.trans (Ext.alloc (Ext.rfl_ _) (.cells #[.slice A5 n5 c5, .int .i64 x.seq, .int .i64 x.kind, .slice B5 m5 d5] 37))).keeps _ _ _ i1
        refine hK _ _ ?_
        clear hK K
        (try simp only [Act.put, List.getElem_toArray, List.getElem_cons_zero, List.getElem_cons_succ, List.setIfInBounds_toArray, List.set_cons_zero, List.set_cons_succ])
        refine wpAnyIn_ready (rs := [0, 3]) (by kernel_rfl) (by simp) ?_
        refine AllReadyIn.cons (o := ({ dst := some 9, op := Go.Op.load 22 (Go.Operand.tmp 3), type := 22, pos := "merge.go:20", after := #[], guard := none } : Go.Oper)) rfl (fun K hK => ?one3) ?more3
        case' one3 =>
          go_simp
          refine hK _ _ ?_
          clear hK K
          (try simp only [Act.put, List.getElem_toArray, List.getElem_cons_zero, List.getElem_cons_succ, List.setIfInBounds_toArray, List.set_cons_zero, List.set_cons_succ])
          refine wpAnyIn_ready (rs := [3]) (by kernel_rfl) (by simp) ?_
          refine AllReadyIn.cons (o := ({ dst := some 12, op := Go.Op.buildSlice 22 1 #[(0, Go.Operand.tmp 11)], type := 22, pos := "merge.go:20", after := #[{ on := 2, ground := Go.Ground.data }], guard := none } : Go.Oper)) rfl (fun K hK => ?_) AllReadyIn.nil
          go_simp
          refine hK _ _ ?_
          clear hK K
          (try simp only [Act.put, List.getElem_toArray, List.getElem_cons_zero, List.getElem_cons_succ, List.setIfInBounds_toArray, List.set_cons_zero, List.set_cons_succ])
          refine wpAnyIn_ready (rs := [4]) (by kernel_rfl) (by simp) ?_
          refine AllReadyIn.cons (o := ({ dst := some 13, op := Go.Op.call { callee := Go.Callee.builtin Go.Builtin.append, args := #[Go.Operand.tmp 9, Go.Operand.tmp 12], argTypes := #[22, 22] }, type := 22, pos := "merge.go:20", after := #[{ on := 0, ground := Go.Ground.data }, { on := 3, ground := Go.Ground.data }, { on := 2, ground := Go.Ground.chain }], guard := none } : Go.Oper)) rfl (fun K hK => ?_) AllReadyIn.nil
          refine stepIn_appF rfl _ _ rfl (w.heap.size + 3) (.slice A n c) pre rfl w3 37 ⟨A5, n5, c5, B5, m5, d5⟩ x rfl (HO.out.ext X23.out) (hfe.low hz2) rfl hpl (Nat.le_trans hz2 X23.out.size) ?_; intro v4 w4 o4 k4 g4 b4; obtain ⟨A7, n7, c7, rfl, _⟩ := o4.ownL.formN (by rw [List.length_append, List.length_singleton]; unfold B41; omega); have hb4 := k4 _ (show 22 ≠ 37 from by decide) _ _ _ (X23.out.blk HB.out); have j1 := (blk_cell (o := 0) (hb4.trans HB.out.symm)).trans i1; have j2 := blk_frozen (o := 0) hb4
          refine hK _ _ ?_
          clear hK K
          (try simp only [Act.put, List.getElem_toArray, List.getElem_cons_zero, List.getElem_cons_succ, List.setIfInBounds_toArray, List.set_cons_zero, List.set_cons_succ])
          refine wpAnyIn_ready (rs := [5]) (by kernel_rfl) (by simp) ?_
          refine AllReadyIn.cons (o := ({ dst := none, op := Go.Op.store 22 (Go.Operand.tmp 3) (Go.Operand.tmp 13), type := 0, pos := "merge.go:20", after := #[{ on := 4, ground := Go.Ground.data }, { on := 4, ground := Go.Ground.chain }, { on := 0, ground := Go.Ground.phase }, { on := 1, ground := Go.Ground.phase }, { on := 2, ground := Go.Ground.phase }, { on := 3, ground := Go.Ground.phase }, { on := 4, ground := Go.Ground.phase }], guard := none } : Go.Oper)) rfl (fun K hK => ?_) AllReadyIn.nil
          go_simp
          refine hK _ _ ?_
          clear hK K
          (try simp only [Act.put, List.getElem_toArray, List.getElem_cons_zero, List.getElem_cons_succ, List.setIfInBounds_toArray, List.set_cons_zero, List.set_cons_succ])
          refine wpAnyIn_done (by kernel_rfl) ?_ _
        case' more3 =>
          refine AllReadyIn.cons (o := ({ dst := some 12, op := Go.Op.buildSlice 22 1 #[(0, Go.Operand.tmp 11)], type := 22, pos := "merge.go:20", after := #[{ on := 2, ground := Go.Ground.data }], guard := none } : Go.Oper)) rfl (fun K hK => ?_) AllReadyIn.nil
          go_simp
          refine hK _ _ ?_
          clear hK K
          (try simp only [Act.put, List.getElem_toArray, List.getElem_cons_zero, List.getElem_cons_succ, List.setIfInBounds_toArray, List.set_cons_zero, List.set_cons_succ])
          refine wpAnyIn_ready (rs := [0]) (by kernel_rfl) (by simp) ?_
          refine AllReadyIn.cons (o := ({ dst := some 9, op := Go.Op.load 22 (Go.Operand.tmp 3), type := 22, pos := "merge.go:20", after := #[], guard := none } : Go.Oper)) rfl (fun K hK => ?_) AllReadyIn.nil
          go_simp
          refine hK _ _ ?_
          clear hK K
          (try simp only [Act.put, List.getElem_toArray, List.getElem_cons_zero, List.getElem_cons_succ, List.setIfInBounds_toArray, List.set_cons_zero, List.set_cons_succ])
          refine wpAnyIn_ready (rs := [4]) (by kernel_rfl) (by simp) ?_
          refine AllReadyIn.cons (o := ({ dst := some 13, op := Go.Op.call { callee := Go.Callee.builtin Go.Builtin.append, args := #[Go.Operand.tmp 9, Go.Operand.tmp 12], argTypes := #[22, 22] }, type := 22, pos := "merge.go:20", after := #[{ on := 0, ground := Go.Ground.data }, { on := 3, ground := Go.Ground.data }, { on := 2, ground := Go.Ground.chain }], guard := none } : Go.Oper)) rfl (fun K hK => ?_) AllReadyIn.nil
          refine stepIn_appF rfl _ _ rfl (w.heap.size + 3) (.slice A n c) pre rfl w3 37 ⟨A5, n5, c5, B5, m5, d5⟩ x rfl (HO.out.ext X23.out) (hfe.low hz2) rfl hpl (Nat.le_trans hz2 X23.out.size) ?_; intro v4 w4 o4 k4 g4 b4; obtain ⟨A7, n7, c7, rfl, _⟩ := o4.ownL.formN (by rw [List.length_append, List.length_singleton]; unfold B41; omega); have hb4 := k4 _ (show 22 ≠ 37 from by decide) _ _ _ (X23.out.blk HB.out); have j1 := (blk_cell (o := 0) (hb4.trans HB.out.symm)).trans i1; have j2 := blk_frozen (o := 0) hb4
          refine hK _ _ ?_
          clear hK K
          (try simp only [Act.put, List.getElem_toArray, List.getElem_cons_zero, List.getElem_cons_succ, List.setIfInBounds_toArray, List.set_cons_zero, List.set_cons_succ])
          refine wpAnyIn_ready (rs := [5]) (by kernel_rfl) (by simp) ?_
          refine AllReadyIn.cons (o := ({ dst := none, op := Go.Op.store 22 (Go.Operand.tmp 3) (Go.Operand.tmp 13), type := 0, pos := "merge.go:20", after := #[{ on := 4, ground := Go.Ground.data }, { on := 4, ground := Go.Ground.chain }, { on := 0, ground := Go.Ground.phase }, { on := 1, ground := Go.Ground.phase }, { on := 2, ground := Go.Ground.phase }, { on := 3, ground := Go.Ground.phase }, { on := 4, ground := Go.Ground.phase }], guard := none } : Go.Oper)) rfl (fun K hK => ?_) AllReadyIn.nil
          go_simp
          refine hK _ _ ?_
          clear hK K
          (try simp only [Act.put, List.getElem_toArray, List.getElem_cons_zero, List.getElem_cons_succ, List.setIfInBounds_toArray, List.set_cons_zero, List.set_cons_succ])
          refine wpAnyIn_done (by kernel_rfl) ?_ _
    all_goals
      have xr : ∀ g, (Value.slice A n c).ownBlock = some g → w.heap.size + 3 ≤ g ∧ ¬ T g := fun g hg => ⟨(HO.out.lt g hg).1, (HR.out g hg).1⟩
      have xw4 : Ext w w4 := (i5.trans (X23.out.trans (Ext.alloc (Ext.rfl_ _) _))).grown g4 (fun g hg => by have := (xr g hg).1; omega)
      have hz3 := X23.out.size
      gi_wp2
      refine ⟨⟨⟨A7, n7, c7, World.cell?_setCell_same' _ _ _ (by rw [j1]; rfl), o4.kx (Kx.of_set hb4) (by decide) (by decide), fun g hg => ?_⟩, blk_set hb4, xw4.setCell (Nat.le_refl _) _, ?_, ?_, ?_⟩, ?_⟩
      · rcases b4 g hg with h | h
        · exact HR.out g h
        · exact ⟨fun h' => by have := (hT g h').2; omega, fun h' => by have := (hT g (hMT g h')).2; omega⟩
      · have := g4.size; rw [World.size_alloc] at this; simp [World.setCell]; omega
      · intro k hk; have := (hT k hk).1; omega
      · intro k hk; have := (hT k (hMT k hk)).1; omega
      · refine Kept.setCell ((Kept.of_ext (X23.out.trans (Ext.alloc (Ext.rfl_ _) _))).trans (Kept.grownX g4 fun g hg h => ?_)) (fun h => ?_) _
        · have := xr g hg
          rcases h with h | h
          · exact this.2 h
          · omega
        · rcases h with h | h
          · have : w.heap.size + 1 + 2 ≤ w.heap.size := (hT _ h).1; omega
          · exact h.2 rfl
  · intro T M Wd hI hD
    obtain ⟨⟨A, n, c, i1, i2, i3⟩, ⟨cs, i4⟩, i5, i6, i7, i8⟩ := hI
    gi_wp2
    refine ⟨by simp, .inl ⟨_, _, rfl, run_takeDeferred hD, ?_⟩⟩
    have k2 := Kept.putObj (fun k => k ≠ W1.heap.size) Wd W1.heap.size (.deferred none) (by simp)
    refine ⟨.slice A n c, ?_, ?_⟩
    · simp [results, Try.f20, go_sem]
    · exact ⟨_, rfl, (i2.u8 (U8.putDef hD _) (fun g hg => k2.block g (i2.lt g hg).2 (by have := (i2.lt g hg).1; omega))).low (by omega), k2.ext_of i5 (fun k hk => by omega)⟩
  · rintro code pre T M Wd hp h hD
    exact h.elim

end Go.Proofs.Ytmmoopioiheleaa
