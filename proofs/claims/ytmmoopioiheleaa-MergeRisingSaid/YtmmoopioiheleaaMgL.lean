/- The law's List: all that an iterator goes over. Conditions: the iterator's contract. -/
import Derived.Test.YtmmoopioiheleaaMgI
namespace Go.Proofs.Ytmmoopioiheleaa
set_option linter.unusedSimpArgs false
set_option linter.unusedVariables false
open Go.RowKit Go.Shelf
attribute [local go_sem] Oper.semAt_some

theorem wpi_append {F : Fence} {n : Nat} {ops : Array Oper} {rest : List Oper} {o : Oper} {a : Act} {w w' : World} {Q : Exit → Act → World → Prop} {ts : Array TypeId} (hgd : o.guard = none) (s x : Operand)
    (ho : o.op = .call { callee := .builtin .append, args := #[s, x], argTypes := ts }) (v y v' : Value) (hsv : a.eval s = v) (hx : a.eval x = y)
    (hrun : (Builtin.append_ ts o.type #[v, y]).run Try.prog w = .ok v' w') (h : wpListIn F n Try.prog ops Q rest (a.put o.dst v') w') : wpListIn F n Try.prog ops Q (o :: rest) a w := by
  refine wpListIn_plain hgd fun K hK => ?_
  unfold Oper.wpIn
  refine ⟨?_, ?_⟩
  · simp [Oper.about, ho, resolve, Target.leads, Sem.run_pure]
  · rw [Oper.semAt_plain F _ _ (by rw [ho]; intro c hc'; cases hc')]
    simp [execOp, ho, resolve, invoke, builtin, hsv, hx, hrun, Result.andThen]
    exact hK _ _ h
/-- One entry more in a row of the call's own. -/
theorem app_oneL (ty t : TypeId) (base : Nat) (v : Value) (xs : List Ent) (w : World) (h : Hdr) (y : Ent) (hown : OwnL w base v xs) (he : Elt w base h y) (hsz : xs.length ≤ 1000000) (hbase : base ≤ w.heap.size) :
    ∃ v' w', (Builtin.append_ #[22, 22] ty #[v, .slice (some ⟨w.heap.size, 0, none⟩) 1 1]).run Try.prog (w.alloc (.cells #[.slice h.A h.n h.c, .int .i64 y.seq, .int .i64 y.kind, .slice h.B h.m h.d] t)) = .ok v' w' ∧ OwnL w' base v' (xs ++ [y]) ∧
      (w.alloc (.cells #[.slice h.A h.n h.c, .int .i64 y.seq, .int .i64 y.kind, .slice h.B h.m h.d] t)).grownBy w' v.ownBlock ∧ Kx 37 w w' ∧ (∀ k, v'.ownBlock = some k → v.ownBlock = some k ∨ w.heap.size ≤ k) := by
  have e0 : Ext w (w.alloc (.cells #[.slice h.A h.n h.c, .int .i64 y.seq, .int .i64 y.kind, .slice h.B h.m h.d] t)) := (by with_reducible (repeat (first | exact Ext.rfl_ _ | assumption | refine Ext.drew ?_ | refine Ext.drewN ?_ _ | refine Ext.alloc ?_ _ | refine Ext.trans ?_ (by assumption))))
  have hr := RdH.one (base := base) t he
  obtain ⟨hs, hl, hrow, hre⟩ := hown.ext e0
  obtain ⟨v', w', hrun, h1, h2, h3⟩ := run_appH _ ty base v hs xs ⟨hl, hrow, hre⟩ (some ⟨w.heap.size, 0, none⟩) 1 1 [h] [y] hr (by unfold B41; simp <;> omega) (by rw [World.size_alloc]; omega)
  refine ⟨v', w', hrun, h1.ownL, h2, (Kx.of_ext e0).trans (Kx.of_row h2 hrow), ?_⟩
  obtain ⟨i0, hi, hz0, hz1, hz2⟩ := info_parts Try.infoE
  obtain ⟨_, _, _, hsrc, _⟩ := hr
  obtain ⟨b, o', e, hc⟩ := hsrc (by decide)
  cases e
  have := run_append_blk (P := Try.prog) _ base 22 ty 37 i0 _ 4 64 Try.underlying22 hi hz0 hz1 hz2 rfl (by decide) v xs.length (rowE hs xs) hrow ⟨w.heap.size, 0, none⟩ 1 1 (rowE [h] [y]) rfl (fun j u hu => by
    have e2 : (⟨w.heap.size, 0, none⟩ : Addr).add j = ⟨w.heap.size, 0 + j, none⟩ := by unfold Addr.add; split <;> simp_all
    rw [e2]; exact hc j u hu) rowE_one (by unfold maxLen; omega) (by omega) hrun
  intro k hk
  rcases this k hk with h | h
  · exact .inl h
  · rw [World.size_alloc] at h; exact .inr (by omega)

/-- What was listed. -/
structure LisI (w : World) (pre : List Ent) (T M : Nat → Prop) (Wc : World) : Prop where
  most : Wc.cell? ⟨w.heap.size, 0, none⟩ = some (.int .i64 0)
  box : ∃ A n c, Wc.cell? ⟨w.heap.size + 1, 0, none⟩ = some (.slice A n c) ∧ OwnL Wc w.heap.size (.slice A n c) pre ∧ (∀ g, (Value.slice A n c).ownBlock = some g → w.heap.size + 4 ≤ g ∧ ¬ T g ∧ ¬ M g)
  boxB : ∃ cs, Wc.heap[w.heap.size + 1]? = some (.cells cs 22 (0, 0))
  ext : Ext w Wc
  size : w.heap.size + 2 ≤ Wc.heap.size
  t : ∀ k, T k → w.heap.size + 2 ≤ k
  m : ∀ k, M k → w.heap.size + 2 ≤ k
theorem LisI.kept {w : World} {pre : List Ent} {T T' M M' : Nat → Prop} {Wc W' : World} (h : LisI w pre T M Wc) (k : Kept (fun k => ¬ M k ∧ k ≠ w.heap.size + 2 ∧ k ≠ w.heap.size + 2 + 1) Wc W') (h8 : U8 Wc W')
    (ht : ∀ k, T' k → T k ∨ Wc.heap.size ≤ k) (hm : ∀ k, M' k → M k ∨ Wc.heap.size ≤ k) : LisI w pre T' M' W' := by
  obtain ⟨h0, ⟨A, n, c, h1, h2, h3⟩, ⟨cs, h4⟩, h5, h6, h7, h9⟩ := h
  have hm0 : ∀ j, j < w.heap.size + 2 → ¬ M j := fun j hj h => by have := h9 _ h; omega
  have hlt := h2.lt
  refine ⟨k.cell h0 ⟨hm0 _ (by dsimp only; omega), by dsimp only; omega, by dsimp only; omega⟩, ⟨A, n, c, k.cell h1 ⟨hm0 _ (by dsimp only; omega), by dsimp only; omega, by dsimp only; omega⟩, h2.u8 h8 (fun j hj hj2 => k.block j hj2 ⟨hm0 j (by omega), by omega, by omega⟩) (fun g hg => k.block g (hlt g hg).2 ⟨(h3 g hg).2.2, by have := (h3 g hg).1; omega, by have := (h3 g hg).1; omega⟩), fun g hg => ⟨(h3 g hg).1, fun h => ?_, fun h => ?_⟩⟩,
    ⟨cs, (k.block _ (by omega) ⟨hm0 _ (by omega), by omega, by omega⟩).trans h4⟩, k.ext_of h5 (fun j hj => ⟨hm0 j (by omega), by omega, by omega⟩), Nat.le_trans h6 k.size, fun j hj => ?_, fun j hj => ?_⟩
  · rcases ht g h with h | h
    · exact (h3 g hg).2.1 h
    · have := (hlt g hg).2; omega
  · rcases hm g h with h | h
    · exact (h3 g hg).2.2 h
    · have := (hlt g hg).2; omega
  · rcases ht j hj with h | h
    · exact h7 j h
    · omega
  · rcases hm j hj with h | h
    · exact h9 j h
    · omega

set_option maxRecDepth 100000 in
set_option maxHeartbeats 4000000 in
theorem listOf_any (gf : Nat) (lb : Array Value) (es : List Ent) (w : World) (hit : Iter gf lb es w) (hes : es.length ≤ 1000000) :
    Calls Try.prog 7 #[.func (.func gf) #[] lb, .int .i64 0] w fun e w' => ∃ v, e = .returned v ∧ OwnL w' w.heap.size v es ∧ Ext w w' := by
  refine (callsIn_wide (n := 3)).1 ?_
  have hnil := fun (w : World) (f : Fn) (x y : Array Value) => run_eql_func_nil w 28 f x y Try.underlying28
  refine callsIn_of_wp_marks Try.func7 rfl trivial ?_ rfl
  simp only [Try.ntmps7, List.size_toArray, List.length_cons, List.length_nil, Nat.reduceAdd, Nat.reduceSub, Array.replicate_succ, Array.replicate_zero, List.push_toArray, List.append_toArray, List.nil_append, List.cons_append]
  gi_wp2
  obtain ⟨W0, hW0⟩ : ∃ W0, W0 = w.alloc (.cells #[.int .i64 0] 3) := ⟨_, rfl⟩
  obtain ⟨W1, hW1⟩ : ∃ W1, W1 = W0.alloc (.cells #[.slice none 0 0] 22) := ⟨_, rfl⟩
  have z0 : W0.heap.size = w.heap.size + 1 := by rw [hW0, World.size_alloc]
  have z1 : W1.heap.size = w.heap.size + 2 := by rw [hW1, World.size_alloc, z0]
  have x1 : Ext W0 W1 := by rw [hW1]; exact Ext.alloc (Ext.rfl_ _) _
  have x0 : Ext w W1 := Ext.trans (by rw [hW0]; exact Ext.alloc (Ext.rfl_ _) _) x1
  have hb0 := cnew w (.int .i64 0) 3
  rw [← hW0] at hb0
  have hb1 := heap_alloc_new W0 (.cells #[.slice none 0 0] 22)
  rw [← hW1, z0] at hb1
  rw [← hW0, ← hW1]
  refine range_lawM (gf := gf) (lb := lb) rfl hit.1 (hit.2 w (Ext.rfl_ _) (fun k => k = w.heap.size + 1) W1 (by rintro k rfl; exact Nat.le_succ _) x0) (Ext.rfl_ _) ?_ ?_
    (LisI w) (fun _ _ _ _ _ => False) ?_ ?_ ?_ ?_ ?_ ?_
  · rintro x vs M W ⟨q, rfl, _⟩; rfl
  · rintro k rfl; omega
  · rw [z1]
    intro pre T T' M M' Wa Wb h hk h8 hs hn hms hmn
    exact h.kept hk h8 hn hmn
  · intro c pre T T' M M' Wa Wb h; exact h.elim
  · exact ⟨x1.keeps _ _ _ hb0.1, ⟨none, 0, 0, by simp [World.cell?, hb1], OwnL.nil _ _, fun g h => by cases h⟩, ⟨_, hb1⟩, x0, by omega, fun _ h => h.elim, fun _ h => h.elim⟩
  · rintro l2 m pre x vs T M Wc rfl hI hpre ⟨q, rfl, hel⟩ hT hMT hz hlo
    rw [z1] at hT hz hlo
    have hpl : pre.length ≤ 1000000 := by have := hpre.length_le; simp at this; omega
    simp only [List.zip_toArray, List.zip_cons_cons, List.zip_nil_right, List.foldl_toArray', List.foldl_cons, List.foldl_nil]
    have hI0 := Lib.hid hI
    have HE := Lib.hid hel
    clear hI hpre hel
    unfold cellsE
    gi_wp2
    have xb : Ext Wc (Wc.alloc (.cells #[.slice q.A q.n q.c, .int .i64 x.seq, .int .i64 x.kind, .slice q.B q.m q.d] 37)) := (by with_reducible (repeat (first | exact Ext.rfl_ _ | assumption | refine Ext.drew ?_ | refine Ext.drewN ?_ _ | refine Ext.alloc ?_ _ | refine Ext.trans ?_ (by assumption))))
    refine ⟨xb, fun W2 kp2 => ?_⟩
    rw [z1] at kp2
    have hbx := kp2.block Wc.heap.size (by simp) (by omega)
    rw [blk1] at hbx
    have hlo2 : ∃ r, (Wc.alloc (.cells #[.slice q.A q.n q.c, .int .i64 x.seq, .int .i64 x.kind, .slice q.B q.m q.d] 37)).heap[w.heap.size + 2 + 1]? = some (.loop r) := hlo.imp fun r h => ((Ext.below xb).block _ (Array.getElem?_eq_some_iff.1 h).1).trans h
    have h82 := U8.of_kept kp2 hlo2
    have hI2 := (hI0.out.kept (T' := T) (M' := M) (Kept.of_ext xb) (U8.of_ext xb) (fun _ h => .inl h) (fun _ h => .inl h)).kept (T' := T) (M' := M) (kp2.mono fun k hk => hk.2.2) h82 (fun _ h => .inl h) (fun _ h => .inl h)
    have hE2 := (HE.out.ext xb).u8 h82 (fun j hj hj2 => kp2.block j hj2 (by omega))
    obtain ⟨r0, r1, r2, r3, _, _, _, _⟩ := box4 hbx (Ext.rfl_ W2)
    obtain ⟨i0, ⟨A, n, c, i1, i2, i3⟩, ⟨cs, i4⟩, i5, i6, i7, i8⟩ := id hI2
    have hz2 : w.heap.size + 4 ≤ W2.heap.size := by have := kp2.size; rw [World.size_alloc] at this; omega
    have hz2c : Wc.heap.size ≤ W2.heap.size := by have := kp2.size; rw [World.size_alloc] at this; omega
    obtain ⟨v7, w7, hrun, o7, g7, k7, b7⟩ := app_oneL 22 37 w.heap.size (.slice A n c) pre W2 q x i2 hE2 hpl (by omega)
    obtain ⟨A7, n7, c7, rfl, _, r7, _⟩ := o7.formN (by rw [List.length_append, List.length_singleton]; unfold B41; omega)
    have hn7 : n7 = pre.length + 1 := by rw [← r7.1]; simp
    have hb4 := k7 _ (show 22 ≠ 37 from by decide) _ _ _ i4
    have j1 := (blk_cell (o := 0) (hb4.trans i4.symm)).trans i1
    have j2 := blk_frozen (o := 0) hb4
    subst hn7
    have hne : ((pre.length : Int) + 1 == 0) = false := by simp; omega
    have kg : Kept (fun k => T k ∨ k < w.heap.size + 4) W2 w7 := (Kept.of_ext (Ext.alloc (Ext.rfl_ W2) _)).trans (Kept.grownX g7 fun g hg h => by
      have := i3 g hg
      rcases h with h | h
      · exact this.2.1 h
      · omega)
    have j0 := kg.cell i0 (.inr (by dsimp only; omega))
    have KG := Lib.hid kg
    have HO := Lib.hid i2
    have HO7 := Lib.hid o7
    have HR := Lib.hid i3
    have HRUN := Lib.hid hrun
    clear hI2 hE2 kp2 xb hlo hlo2 i2 i3 i7 i8 HE o7 r7 hrun
    gi_wp2_with (refine wpi_append rfl _ _ rfl _ _ _ rfl rfl HRUN.out ?_)
    have xw7 : Ext w w7 := (i5.trans (Ext.alloc (Ext.rfl_ W2) _)).grown g7 (fun g hg => by have := (HR.out g hg).1; omega)
    refine ⟨⟨?_, ⟨A7, _, c7, World.cell?_setCell_same' _ _ _ (by rw [j1]; rfl), HO7.out.u8 (U8.of_kx (Kx.of_set hb4) (by decide)) (fun j hj hj2 => Below.heap_setCell _ _ _ _ (by dsimp only; omega)) (fun g hg => Below.heap_setCell _ _ _ _ ?_), fun g hg => ⟨?_, ?_⟩⟩, blk_set hb4, xw7.setCell (by dsimp only; omega) _, ?_, ?_, ?_⟩, ?_⟩
    · rw [World.cell?_setCell_other _ _ _ _ (fun e => by simp at e)]; exact j0
    · rcases b7 g hg with h | h
      · have := (HR.out g h).1; dsimp only; omega
      · dsimp only; omega
    · rcases b7 g hg with h | h
      · exact (HR.out g h).1
      · omega
    · rcases b7 g hg with h | h
      · exact (HR.out g h).2
      · exact ⟨fun h' => by have := (hT g h').2; omega, fun h' => by have := (hT g (hMT g h')).2; omega⟩
    · have := KG.out.size; simp [World.setCell]; omega
    · intro k hk; have := (hT k hk).1; omega
    · intro k hk; have := (hT k (hMT k hk)).1; omega
    · refine Kept.setCell (KG.out.mono fun k hk => ?_) (fun h => ?_) _
      · rcases hk with h | h
        · exact .inl h
        · exact .inr (by omega)
      · rcases h with h | h
        · have : w.heap.size + 2 + 2 ≤ w.heap.size + 1 := (hT _ h).1; omega
        · exact h.2 rfl
  · intro T M Wd hI hD
    obtain ⟨i0, ⟨A, n, c, i1, i2, i3⟩, ⟨cs, i4⟩, i5, i6, i7, i8⟩ := hI
    gi_wp2
    refine ⟨by simp, .inl ⟨_, _, rfl, run_takeDeferred hD, ?_⟩⟩
    have k2 := Kept.putObj (fun k => k ≠ W1.heap.size) Wd W1.heap.size (.deferred none) (by simp)
    refine ⟨.slice A n c, ?_, ?_⟩
    · simp [results, Try.f7, go_sem]
    · exact ⟨_, rfl, i2.u8 (U8.putDef hD _) (fun j hj hj2 => k2.block j hj2 (by omega)) (fun g hg => k2.block g (i2.lt g hg).2 (by have := (i3 g hg).1; omega)), k2.ext_of i5 (fun k hk => by omega)⟩
  · rintro code pre T M Wd hp h hD
    exact h.elim

end Go.Proofs.Ytmmoopioiheleaa
