/- The law's pairs: all that an iterator of pairs goes over. Conditions: the iterator's contract. -/
import Derived.Test.YtmmoopioiheleaaMgL
import Derived.Test.YtmmoopioiheleaaMgN
namespace Go.Proofs.Ytmmoopioiheleaa
set_option linter.unusedSimpArgs false
set_option linter.unusedVariables false
open Go.RowKit Go.Shelf
attribute [local go_sem] Oper.semAt_some

/-- A row of pairs of the call's own: how many; the first one's key reads. -/
def OwnPr (w : World) (base : Nat) (v : Value) (ps : List (Bs × Bs)) : Prop :=
  ∃ vs : List Value, w.ownsRow base 47 2 v ps.length vs ∧ ∀ p r, ps = p :: r → ∃ A n c b, vs[0]? = some (.slice A n c) ∧ OwnB w b (.slice A n c) p.1
theorem OwnPr.nil (w : World) (base : Nat) : OwnPr w base (.slice none 0 0) [] := ⟨[], World.ownsRow_nil _ _ _ _, fun p r h => by cases h⟩
theorem OwnPr.lt {w : World} {base : Nat} {v : Value} {ps : List (Bs × Bs)} (h : OwnPr w base v ps) : ∀ k, v.ownBlock = some k → base ≤ k ∧ k < w.heap.size := by
  obtain ⟨vs, ho, _⟩ := h
  exact ho.lt
theorem OwnPr.u8 {w w' : World} {base : Nat} {v : Value} {ps : List (Bs × Bs)} (h : OwnPr w base v ps) (k : U8 w w') (hb : ∀ g, v.ownBlock = some g → w'.heap[g]? = w.heap[g]?) : OwnPr w' base v ps := by
  obtain ⟨vs, ho, h1⟩ := h
  refine ⟨vs, ownsRow_blk ho hb, fun p r e => ?_⟩
  obtain ⟨A, n, c, b, e1, e2⟩ := h1 p r e
  exact ⟨A, n, c, b, e1, e2.u8 k⟩
theorem OwnPr.formN {w : World} {base : Nat} {v : Value} {ps : List (Bs × Bs)} (h : OwnPr w base v ps) : ∃ A n c, v = .slice A n c ∧ n = ps.length := by
  obtain ⟨vs, ho, _⟩ := h
  rcases ho.2 with ⟨rfl, h0⟩ | ⟨g, cap, cur, rfl, _⟩
  · exact ⟨none, 0, 0, rfl, h0.symm⟩
  · exact ⟨_, _, _, rfl, rfl⟩
/-- The first pair's key. -/
theorem OwnPr.head {w : World} {base : Nat} {v : Value} {p : Bs × Bs} {r : List (Bs × Bs)} (h : OwnPr w base v (p :: r)) : ∃ g c A n d, v = .slice (some ⟨g, 0, none⟩) (r.length + 1) c ∧ w.cell? ⟨g, 0, none⟩ = some (.slice A n d) ∧ Rd w A n p.1 := by
  obtain ⟨vs, ho, h1⟩ := h
  obtain ⟨A, n, d, b, e1, e2⟩ := h1 p r rfl
  rcases ho.2 with ⟨rfl, h0⟩ | ⟨g, cap, cur, rfl, _⟩
  · simp at h0
  · refine ⟨g, cap, A, n, d, rfl, ?_, ?_⟩
    · have hl := ho.1
      rw [World.ownsRow.cellAt ho 0 (by rw [List.length_cons]; omega), e1]
    · obtain ⟨A', n', d', e, _, hr, _⟩ := e2.formN
      cases e
      exact hr
theorem Try.infoPr : (Try.prog.info? 47).map (fun i => (i.zero, i.size, i.bytes)) = some (some (.agg #[.slice none 0 0, .slice none 0 0]), 2, 48) := by kernel_rfl
theorem app_oneP (ty t : TypeId) (base : Nat) (v : Value) (ps : List (Bs × Bs)) (w : World) (A : Option Addr) (n c : Nat) (B : Option Addr) (m d : Nat) (y : Bs × Bs) (hown : OwnPr w base v ps) (bk : Nat) (hk : OwnB w bk (.slice A n c) y.1) (hsz : ps.length ≤ 1000000) (hbase : base ≤ w.heap.size) :
    ∃ v' w', (Builtin.append_ #[41, 41] ty #[v, .slice (some ⟨w.heap.size, 0, none⟩) 1 1]).run Try.prog (w.alloc (.cells #[.slice A n c, .slice B m d] t)) = .ok v' w' ∧ OwnPr w' base v' (ps ++ [y]) ∧
      (w.alloc (.cells #[.slice A n c, .slice B m d] t)).grownBy w' v.ownBlock ∧ Kx 47 w w' ∧ (∀ k, v'.ownBlock = some k → v.ownBlock = some k ∨ w.heap.size ≤ k) := by
  have e0 : Ext w (w.alloc (.cells #[.slice A n c, .slice B m d] t)) := (by with_reducible (repeat (first | exact Ext.rfl_ _ | assumption | refine Ext.drew ?_ | refine Ext.drewN ?_ _ | refine Ext.alloc ?_ _ | refine Ext.trans ?_ (by assumption))))
  obtain ⟨vs, ho0, h1⟩ := hown
  have ho : (w.alloc (.cells #[.slice A n c, .slice B m d] t)).ownsRow base 47 2 v ps.length vs := ownsRow_kx (T := 3) ho0 (Kx.of_ext e0) (by decide)
  obtain ⟨i0, hi, hz0, hz1, hz2⟩ := info_parts Try.infoPr
  have hb := heap_alloc_new w (.cells #[.slice A n c, .slice B m d] t)
  have hnews : ∀ j u, ([.slice A n c, .slice B m d] : List Value)[j]? = some u → (w.alloc (.cells #[.slice A n c, .slice B m d] t)).cell? ((⟨w.heap.size, 0, none⟩ : Addr).add j) = some u := by
    intro j u hj
    have e2 : (⟨w.heap.size, 0, none⟩ : Addr).add j = ⟨w.heap.size, j, none⟩ := by unfold Addr.add; split <;> simp_all
    rw [e2]
    unfold World.cell?
    simp only [hb]
    match j with
    | 0 => simpa using hj
    | 1 => simpa using hj
    | j + 2 => simp at hj
  have hone : ∀ u ∈ ([.slice A n c, .slice B m d] : List Value), u.oneCell' = true := by
    intro u hu
    simp at hu
    rcases hu with rfl | rfl <;> rfl
  obtain ⟨v', w', hrun, h2, h3, h4⟩ := run_append_own (P := Try.prog) _ base 41 ty 47 i0 _ 2 48 Try.underlying41 hi hz0 hz1 hz2 rfl (by decide) v ps.length vs ho ⟨w.heap.size, 0, none⟩ 1 1 [.slice A n c, .slice B m d] rfl hnews hone (by unfold maxLen; omega) (by omega) (by rw [World.size_alloc]; omega)
  have h5 := run_append_blk (P := Try.prog) _ base 41 ty 47 i0 _ 2 48 Try.underlying41 hi hz0 hz1 hz2 rfl (by decide) v ps.length vs ho ⟨w.heap.size, 0, none⟩ 1 1 [.slice A n c, .slice B m d] rfl hnews hone (by unfold maxLen; omega) (by omega) hrun
  have kk : Kx 47 w w' := (Kx.of_ext e0).trans (Kx.of_row h3 ho)
  refine ⟨v', w', hrun, ⟨vs ++ [.slice A n c, .slice B m d], by rw [List.length_append, List.length_singleton]; exact h2, fun p r e => ?_⟩, h3, kk, fun k hk' => ?_⟩
  · cases ps with
    | nil =>
      have hv : vs = [] := List.eq_nil_of_length_eq_zero (by simpa using ho0.1)
      subst hv
      simp at e
      obtain ⟨rfl, _⟩ := e
      exact ⟨A, n, c, bk, rfl, hk.kx kk (by decide)⟩
    | cons p0 r0 =>
      simp at e
      obtain ⟨rfl, _⟩ := e
      obtain ⟨A1, n1, c1, b1, e1, e2⟩ := h1 p0 r0 rfl
      exact ⟨A1, n1, c1, b1, by rw [List.getElem?_append_left (List.getElem?_eq_some_iff.1 e1).1]; exact e1, e2.kx kk (by decide)⟩
  · rcases h5 k hk' with h | h
    · exact .inl h
    · rw [World.size_alloc] at h; exact .inr (by omega)

/-- The pairs that were listed. -/
structure PrsI (w : World) (pre : List (Bs × Bs)) (T M : Nat → Prop) (Wc : World) : Prop where
  most : Wc.cell? ⟨w.heap.size, 0, none⟩ = some (.int .i64 0)
  box : ∃ A n c, Wc.cell? ⟨w.heap.size + 1, 0, none⟩ = some (.slice A n c) ∧ OwnPr Wc w.heap.size (.slice A n c) pre ∧ (∀ g, (Value.slice A n c).ownBlock = some g → w.heap.size + 4 ≤ g ∧ ¬ T g ∧ ¬ M g)
  boxB : ∃ cs, Wc.heap[w.heap.size + 1]? = some (.cells cs 41 (0, 0))
  ext : Ext w Wc
  size : w.heap.size + 2 ≤ Wc.heap.size
  t : ∀ k, T k → w.heap.size + 2 ≤ k
  m : ∀ k, M k → w.heap.size + 2 ≤ k
theorem PrsI.kept {w : World} {pre : List (Bs × Bs)} {T T' M M' : Nat → Prop} {Wc W' : World} (h : PrsI w pre T M Wc) (k : Kept (fun k => ¬ M k ∧ k ≠ w.heap.size + 2 ∧ k ≠ w.heap.size + 2 + 1) Wc W') (h8 : U8 Wc W')
    (ht : ∀ k, T' k → T k ∨ Wc.heap.size ≤ k) (hm : ∀ k, M' k → M k ∨ Wc.heap.size ≤ k) : PrsI w pre T' M' W' := by
  obtain ⟨h0, ⟨A, n, c, h1, h2, h3⟩, ⟨cs, h4⟩, h5, h6, h7, h9⟩ := h
  have hm0 : ∀ j, j < w.heap.size + 2 → ¬ M j := fun j hj h => by have := h9 _ h; omega
  have hlt := h2.lt
  refine ⟨k.cell h0 ⟨hm0 _ (by dsimp only; omega), by dsimp only; omega, by dsimp only; omega⟩, ⟨A, n, c, k.cell h1 ⟨hm0 _ (by dsimp only; omega), by dsimp only; omega, by dsimp only; omega⟩, h2.u8 h8 (fun g hg => k.block g (hlt g hg).2 ⟨(h3 g hg).2.2, by have := (h3 g hg).1; omega, by have := (h3 g hg).1; omega⟩), fun g hg => ⟨(h3 g hg).1, fun h => ?_, fun h => ?_⟩⟩,
    ⟨cs, (k.block _ (by omega) ⟨hm0 _ (by omega), by omega, by omega⟩).trans h4⟩, k.ext_of h5 (fun j hj => ⟨hm0 j (by omega), by omega, by omega⟩), Nat.le_trans h6 k.size, fun j hj => ?_, fun j hj => ?_⟩
  · rcases ht g h with h | h
    · exact (h3 g hg).2.1 h
    · have := (hlt g hg).2; omega
  · rcases hm g h with h | h
    · exact (h3 g hg).2.2 h
    · have := (hlt g hg).2; omega
  · rcases ht j hj with h | h
    · exact h7 j h
    · omega
  · rcases hm j hj with h | h
    · exact h9 j h
    · omega

set_option maxRecDepth 100000 in
set_option maxHeartbeats 4000000 in
theorem pairs_any (gf : Nat) (lb : Array Value) (es : List (Bs × Bs)) (w : World) (hit : IterP gf lb es w) (hes : es.length ≤ 1000000) :
    Calls Try.prog 17 #[.func (.func gf) #[] lb, .int .i64 0] w fun e w' => ∃ v, e = .returned v ∧ OwnPr w' w.heap.size v es ∧ Ext w w' := by
  refine (callsIn_wide (n := 3)).1 ?_
  have hnil := fun (w : World) (f : Fn) (x y : Array Value) => run_eql_func_nil w 44 f x y Try.underlying44
  refine callsIn_of_wp_marks Try.func17 rfl trivial ?_ rfl
  simp only [Try.ntmps17, List.size_toArray, List.length_cons, List.length_nil, Nat.reduceAdd, Nat.reduceSub, Array.replicate_succ, Array.replicate_zero, List.push_toArray, List.append_toArray, List.nil_append, List.cons_append]
  gi_wp2
  obtain ⟨W0, hW0⟩ : ∃ W0, W0 = w.alloc (.cells #[.int .i64 0] 3) := ⟨_, rfl⟩
  obtain ⟨W1, hW1⟩ : ∃ W1, W1 = W0.alloc (.cells #[.slice none 0 0] 41) := ⟨_, rfl⟩
  have z0 : W0.heap.size = w.heap.size + 1 := by rw [hW0, World.size_alloc]
  have z1 : W1.heap.size = w.heap.size + 2 := by rw [hW1, World.size_alloc, z0]
  have x1 : Ext W0 W1 := by rw [hW1]; exact Ext.alloc (Ext.rfl_ _) _
  have x0 : Ext w W1 := Ext.trans (by rw [hW0]; exact Ext.alloc (Ext.rfl_ _) _) x1
  have hb0 := cnew w (.int .i64 0) 3
  rw [← hW0] at hb0
  have hb1 := heap_alloc_new W0 (.cells #[.slice none 0 0] 41)
  rw [← hW1, z0] at hb1
  rw [← hW0, ← hW1]
  refine range_lawM (gf := gf) (lb := lb) rfl hit.1 (hit.2 w (Ext.rfl_ _) (fun k => k = w.heap.size + 1) W1 (by rintro k rfl; exact Nat.le_succ _) x0) (Ext.rfl_ _) ?_ ?_
    (PrsI w) (fun _ _ _ _ _ => False) ?_ ?_ ?_ ?_ ?_ ?_
  · rintro x vs M W ⟨_, _, _, _, _, _, rfl, _⟩; rfl
  · rintro k rfl; omega
  · rw [z1]
    intro pre T T' M M' Wa Wb h hk h8 hs hn hms hmn
    exact h.kept hk h8 hn hmn
  · intro c pre T T' M M' Wa Wb h; exact h.elim
  · exact ⟨x1.keeps _ _ _ hb0.1, ⟨none, 0, 0, by simp [World.cell?, hb1], OwnPr.nil _ _, fun g h => by cases h⟩, ⟨_, hb1⟩, x0, by omega, fun _ h => h.elim, fun _ h => h.elim⟩
  · rintro l2 m pre x vs T M Wc rfl hI hpre ⟨Aq, nq, cq, Bq, mq, dq, rfl, ⟨bk, hok⟩, ⟨bv, hov⟩⟩ hT hMT hz hlo
    rw [z1] at hT hz hlo
    have hpl : pre.length ≤ 1000000 := by have := hpre.length_le; simp at this; omega
    simp only [List.zip_toArray, List.zip_cons_cons, List.zip_nil_right, List.foldl_toArray', List.foldl_cons, List.foldl_nil]
    have hI0 := Lib.hid hI
    have HOK := Lib.hid hok
    clear hI hpre hok hov
    gi_wp2
    have xb : Ext Wc (Wc.alloc (.cells #[.slice Aq nq cq, .slice Bq mq dq] 47)) := (by with_reducible (repeat (first | exact Ext.rfl_ _ | assumption | refine Ext.drew ?_ | refine Ext.drewN ?_ _ | refine Ext.alloc ?_ _ | refine Ext.trans ?_ (by assumption))))
    refine ⟨xb, fun W2 kp2 => ?_⟩
    rw [z1] at kp2
    have hbx := kp2.block Wc.heap.size (by simp) (by omega)
    rw [blk1] at hbx
    have hlo2 : ∃ r, (Wc.alloc (.cells #[.slice Aq nq cq, .slice Bq mq dq] 47)).heap[w.heap.size + 2 + 1]? = some (.loop r) := hlo.imp fun r h => ((Ext.below xb).block _ (Array.getElem?_eq_some_iff.1 h).1).trans h
    have h82 := U8.of_kept kp2 hlo2
    have hI2 := (hI0.out.kept (T' := T) (M' := M) (Kept.of_ext xb) (U8.of_ext xb) (fun _ h => .inl h) (fun _ h => .inl h)).kept (T' := T) (M' := M) (kp2.mono fun k hk => hk.2.2) h82 (fun _ h => .inl h) (fun _ h => .inl h)
    have hK2 := (HOK.out.ext xb).u8 h82
    have r0 : W2.cell? ⟨Wc.heap.size, 0, none⟩ = some (.slice Aq nq cq) := by unfold World.cell?; simp only [hbx]; rfl
    have r1 : W2.cell? ⟨Wc.heap.size, 1, none⟩ = some (.slice Bq mq dq) := by unfold World.cell?; simp only [hbx]; rfl
    obtain ⟨i0, ⟨A, n, c, i1, i2, i3⟩, ⟨cs, i4⟩, i5, i6, i7, i8⟩ := id hI2
    have hz2 : w.heap.size + 4 ≤ W2.heap.size := by have := kp2.size; rw [World.size_alloc] at this; omega
    have hz2c : Wc.heap.size ≤ W2.heap.size := by have := kp2.size; rw [World.size_alloc] at this; omega
    obtain ⟨v7, w7, hrun, o7, g7, k7, b7⟩ := app_oneP 41 47 w.heap.size (.slice A n c) pre W2 Aq nq cq Bq mq dq x i2 bk hK2 hpl (by omega)
    obtain ⟨A7, n7, c7, rfl, hn7⟩ := o7.formN
    rw [List.length_append, List.length_singleton] at hn7
    have hb4 := k7 _ (show 41 ≠ 47 from by decide) _ _ _ i4
    have j1 := (blk_cell (o := 0) (hb4.trans i4.symm)).trans i1
    have j2 := blk_frozen (o := 0) hb4
    subst hn7
    have hne : ((pre.length : Int) + 1 == 0) = false := by simp; omega
    have kg : Kept (fun k => T k ∨ k < w.heap.size + 4) W2 w7 := (Kept.of_ext (Ext.alloc (Ext.rfl_ W2) _)).trans (Kept.grownX g7 fun g hg h => by
      have := i3 g hg
      rcases h with h | h
      · exact this.2.1 h
      · omega)
    have j0 := kg.cell i0 (.inr (by dsimp only; omega))
    have KG := Lib.hid kg
    have HO := Lib.hid i2
    have HO7 := Lib.hid o7
    have HR := Lib.hid i3
    have HRUN := Lib.hid hrun
    clear hI2 hK2 kp2 xb hlo hlo2 i2 i3 i7 i8 HOK o7 hrun
    gi_wp2_with (refine wpi_append rfl _ _ rfl _ _ _ rfl rfl HRUN.out ?_)
    have xw7 : Ext w w7 := (i5.trans (Ext.alloc (Ext.rfl_ W2) _)).grown g7 (fun g hg => by have := (HR.out g hg).1; omega)
    refine ⟨⟨?_, ⟨A7, _, c7, World.cell?_setCell_same' _ _ _ (by rw [j1]; rfl), HO7.out.u8 (U8.of_kx (Kx.of_set hb4) (by decide)) (fun g hg => Below.heap_setCell _ _ _ _ ?_), fun g hg => ⟨?_, ?_⟩⟩, blk_set hb4, xw7.setCell (by dsimp only; omega) _, ?_, ?_, ?_⟩, ?_⟩
    · rw [World.cell?_setCell_other _ _ _ _ (fun e => by simp at e)]; exact j0
    · rcases b7 g hg with h | h
      · have := (HR.out g h).1; dsimp only; omega
      · dsimp only; omega
    · rcases b7 g hg with h | h
      · exact (HR.out g h).1
      · omega
    · rcases b7 g hg with h | h
      · exact (HR.out g h).2
      · exact ⟨fun h' => by have := (hT g h').2; omega, fun h' => by have := (hT g (hMT g h')).2; omega⟩
    · have := KG.out.size; simp [World.setCell]; omega
    · intro k hk; have := (hT k hk).1; omega
    · intro k hk; have := (hT k (hMT k hk)).1; omega
    · refine Kept.setCell (KG.out.mono fun k hk => ?_) (fun h => ?_) _
      · rcases hk with h | h
        · exact .inl h
        · exact .inr (by omega)
      · rcases h with h | h
        · have : w.heap.size + 2 + 2 ≤ w.heap.size + 1 := (hT _ h).1; omega
        · exact h.2 rfl
  · intro T M Wd hI hD
    obtain ⟨i0, ⟨A, n, c, i1, i2, i3⟩, ⟨cs, i4⟩, i5, i6, i7, i8⟩ := hI
    gi_wp2
    refine ⟨by simp, .inl ⟨_, _, rfl, run_takeDeferred hD, ?_⟩⟩
    have k2 := Kept.putObj (fun k => k ≠ W1.heap.size) Wd W1.heap.size (.deferred none) (by simp)
    refine ⟨.slice A n c, ?_, ?_⟩
    · simp [results, Try.f17, go_sem]
    · exact ⟨_, rfl, i2.u8 (U8.putDef hD _) (fun g hg => k2.block g (i2.lt g hg).2 (by have := (i3 g hg).1; omega)), k2.ext_of i5 (fun k hk => by omega)⟩
  · rintro code pre T M Wd hp h hD
    exact h.elim

end Go.Proofs.Ytmmoopioiheleaa
