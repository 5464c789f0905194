/- edit.Read of a whole version's frame. Conditions: the bytes are just these. -/
import Derived.Test.YteooaplimiifiaaGreatEwF
import Derived.Test.YteooaplimiifiaaGreatEwW
namespace Go.Proofs.YteooaplimiifiaaGreat
set_option linter.unusedSimpArgs false
set_option linter.unusedVariables false
set_option maxRecDepth 100000
open Go.RowKit Go.Shelf
attribute [local go_sem] Oper.semAt_some

theorem eempty_any (w : World) : Calls Tryz.prog 35 #[] w fun e w' => e = .returned (.agg #[.int .i64 1, .int .i64 0, .int .i64 0, .int .i64 0, .slice none 0 0]) ∧ Ext w w' ∧ w'.heap.size = w.heap.size + 1 := by
  have HB := Lib.hid (heap_alloc_new w (.cells #[.int .i64 0, .int .i64 0, .int .i64 0, .int .i64 0, .slice none 0 0] 24))
  obtain ⟨z0, z1, z2, z3, z4, _⟩ := box5 (set5 HB.out (.int .i64 1) (.int .i64 0) (.int .i64 0) (.int .i64 0) (.slice none 0 0)) (Ext.rfl_ _)
  obtain ⟨a0, a1, a2, a3, a4, b0, b1, b2, b3, b4⟩ := box5 HB.out (Ext.rfl_ _)
  go_enter Tryz.func35, Tryz.ntmps35
  go_wp2
  refine bodyPost_ret (v := .agg #[.int .i64 1, .int .i64 0, .int .i64 0, .int .i64 0, .slice none 0 0]) (by simp [results, Tryz.f35, go_sem, z0, z1, z2, z3, z4]) rfl ?_
  refine ⟨rfl, ?_, ?_⟩
  · exact Ext.alloc (Ext.rfl_ w) _
  · simp

theorem OwnT.c8 {w w' : World} {base : Nat} {v : Value} {xs : List Tab} (h : OwnT w base v xs) (c : C8 w w') : OwnT w' base v xs := by
  obtain ⟨hs, hl, ho, hr⟩ := h
  have ha : ∀ {A : Option Addr} {n : Nat}, Apt w base A n → Apt w' base A n := fun h hn a e => by
    rcases h hn a e with h | ⟨cs, fr, h⟩
    · exact .inl h
    · exact .inr ⟨cs, fr, c _ _ _ _ h⟩
  refine ⟨hs, hl, ⟨ho.1, ?_⟩, fun k h1 h2 => ?_⟩
  · rcases ho.2 with hn | ⟨g, cap, cur, hv, hb2, hg, rest⟩
    · exact .inl hn
    · exact .inr ⟨g, cap, cur, hv, hb2, c g _ _ _ hg, rest⟩
  · obtain ⟨⟨A, n, c', A', n', c'', hv, r1, r2, r3⟩, a1, a2⟩ := hr k h1 h2
    exact ⟨⟨A, n, c', A', n', c'', hv, r1.keep c.keeps, r2.keep c.keeps, r3⟩, ha a1, ha a2⟩

/-- Where edit.Read stands: the results' boxes, the version, the number; the row of the version, once there is one. -/
structure RdZ (w : World) (x : Ver) (pre : List (Nat × Bs)) (W : World) : Prop where
  r0 : W.heap[w.heap.size]? = some (.cells #[.int .i64 0, .int .i64 0, .int .i64 0, .int .i64 0, .slice none 0 0] 24 (0, 0))
  r1 : W.heap[w.heap.size + 1]? = some (.cells #[.int .i64 0] 3 (0, 0))
  r2 : W.heap[w.heap.size + 2]? = some (.cells #[.bool false] 4 (0, 0))
  rv : (pre = [] ∧ W.heap[w.heap.size + 4]? = some (.cells #[.int .i64 1, .int .i64 0, .int .i64 0, .int .i64 0, .slice none 0 0] 24 (0, 0)) ∧ W.heap[w.heap.size + 5]? = some (.cells #[.int .i64 0] 3 (0, 0))) ∨
    (pre = [(0, payE x)] ∧ (∃ b B m d, W.heap[w.heap.size + 4]? = some (.cells #[.int .i64 x.next, .int .i64 x.log, .int .i64 x.index, .int .i64 x.seq, .slice B m d] 24 (0, 0)) ∧ OwnT W b (.slice B m d) x.ts) ∧ W.heap[w.heap.size + 5]? = some (.cells #[.int .i64 (8 + (payE x).length : Nat)] 3 (0, 0)))
  xt : Ext w W
  sz : w.heap.size + 7 ≤ W.heap.size
theorem RdZ.kept {w : World} {x : Ver} {pre : List (Nat × Bs)} {W W' : World} (h : RdZ w x pre W) (k : Kept (fun k => k ≠ w.heap.size + 7 ∧ k ≠ w.heap.size + 7 + 1) W W') (c : C8 W W') : RdZ w x pre W' := by
  refine ⟨c _ _ _ _ h.r0, c _ _ _ _ h.r1, c _ _ _ _ h.r2, ?_, k.ext_of h.xt (fun j hj => by omega), Nat.le_trans h.sz k.size⟩
  rcases h.rv with ⟨h1, h2, h3⟩ | ⟨h1, ⟨b, B, m, d, h2, h4⟩, h3⟩
  · exact .inl ⟨h1, c _ _ _ _ h2, c _ _ _ _ h3⟩
  · exact .inr ⟨h1, ⟨b, B, m, d, c _ _ _ _ h2, h4.c8 c⟩, c _ _ _ _ h3⟩

theorem up2 {a b : World} {k : Nat} {o : Obj} (hx : Ext a b) (h : a.heap[k]? = some o) : b.heap[k]? = some o := ((Ext.below hx).block _ (Array.getElem?_eq_some_iff.1 h).1).trans h
theorem cells_ne {w : World} {g g' : Nat} {i : Nat} {u : Value} {o : Obj} (h : w.heap[g]? = some o) (hn : g ≠ g') : (w.setCell ⟨g', i, none⟩ u).heap[g]? = some o := (Below.heap_setCell _ _ _ _ hn).trans h
theorem noV5 (a b c d : Int) (B : Option Addr) (n m : Nat) : ∀ (i : Nat) (k : Int), (#[Value.int .i64 a, .int .i64 b, .int .i64 c, .int .i64 d, .slice B n m] : Array Value)[i]? ≠ some (Value.int .u8 k) := by
  intro i k
  match i with
  | 0 => simp
  | 1 => simp
  | 2 => simp
  | 3 => simp
  | 4 => simp
  | i + 5 => simp
theorem noB1 (a : Bool) : ∀ (i : Nat) (k : Int), (#[Value.bool a] : Array Value)[i]? ≠ some (Value.int .u8 k) := by
  intro i k
  match i with
  | 0 => simp
  | i + 1 => simp
theorem noI1 (a : Int) : ∀ (i : Nat) (k : Int), (#[Value.int .i64 a] : Array Value)[i]? ≠ some (Value.int .u8 k) := by
  intro i k
  match i with
  | 0 => simp
  | i + 1 => simp
theorem rdz_end {w W3 w6 : World} {x : Ver} {A5 : Option Addr} {n5 c5 base nb : Nat} (hI : RdZ w x [] W3) (h6 : Ext W3 w6) (ho : OwnT w6 base (.slice A5 n5 c5) x.ts) (hb : x.ts.length ≤ B47) (hnb : (payE x).length = nb) :
    RdZ w x ([] ++ [(0, payE x)]) (((((((w6.setCell ⟨w.heap.size + 4, 0, none⟩ (.int .i64 x.next)).setCell ⟨w.heap.size + 4, 1, none⟩ (.int .i64 x.log)).setCell ⟨w.heap.size + 4, 2, none⟩ (.int .i64 x.index)).setCell ⟨w.heap.size + 4, 3, none⟩ (.int .i64 x.seq)).setCell ⟨w.heap.size + 4, 4, none⟩ (.slice A5 n5 c5)).setCell ⟨w.heap.size + 4 + 1, 0, none⟩ (.int .i64 (8 + (nb : Int)))).drew) ∧
    Kept (fun k => k ≠ w.heap.size + 4 ∧ k ≠ w.heap.size + 5) W3 (((((((w6.setCell ⟨w.heap.size + 4, 0, none⟩ (.int .i64 x.next)).setCell ⟨w.heap.size + 4, 1, none⟩ (.int .i64 x.log)).setCell ⟨w.heap.size + 4, 2, none⟩ (.int .i64 x.index)).setCell ⟨w.heap.size + 4, 3, none⟩ (.int .i64 x.seq)).setCell ⟨w.heap.size + 4, 4, none⟩ (.slice A5 n5 c5)).setCell ⟨w.heap.size + 4 + 1, 0, none⟩ (.int .i64 (8 + (nb : Int)))).drew) := by
  obtain ⟨r0, r1, r2, rv, xt, sz⟩ := hI
  obtain ⟨bv, bn⟩ : W3.heap[w.heap.size + 4]? = some (.cells #[.int .i64 1, .int .i64 0, .int .i64 0, .int .i64 0, .slice none 0 0] 24 (0, 0)) ∧ W3.heap[w.heap.size + 5]? = some (.cells #[.int .i64 0] 3 (0, 0)) := by
    rcases rv with ⟨_, h⟩ | ⟨h, _⟩
    · exact h
    · cases h
  have bv6 := up2 h6 bv
  have bn6 := up2 h6 bn
  have hb7 := set5 bv6 (.int .i64 x.next) (.int .i64 x.log) (.int .i64 x.index) (.int .i64 x.seq) (.slice A5 n5 c5)
  have ho7 := ho.other bv6 (by decide) (by decide) (noV5 _ _ _ _ _ _ _) (grown5 w6 (w.heap.size + 4) (.int .i64 x.next) (.int .i64 x.log) (.int .i64 x.index) (.int .i64 x.seq) (.slice A5 n5 c5))
  have hk7 : Kept (fun k => k ≠ w.heap.size + 4) w6 (((((w6.setCell ⟨w.heap.size + 4, 0, none⟩ (.int .i64 x.next)).setCell ⟨w.heap.size + 4, 1, none⟩ (.int .i64 x.log)).setCell ⟨w.heap.size + 4, 2, none⟩ (.int .i64 x.index)).setCell ⟨w.heap.size + 4, 3, none⟩ (.int .i64 x.seq)).setCell ⟨w.heap.size + 4, 4, none⟩ (.slice A5 n5 c5)) :=
    Kept.setCell (Kept.setCell (Kept.setCell (Kept.setCell (Kept.setCell (Kept.rfl_ _ _) (by simp) _) (by simp) _) (by simp) _) (by simp) _) (by simp) _
  generalize ((((w6.setCell ⟨w.heap.size + 4, 0, none⟩ (.int .i64 x.next)).setCell ⟨w.heap.size + 4, 1, none⟩ (.int .i64 x.log)).setCell ⟨w.heap.size + 4, 2, none⟩ (.int .i64 x.index)).setCell ⟨w.heap.size + 4, 3, none⟩ (.int .i64 x.seq)).setCell ⟨w.heap.size + 4, 4, none⟩ (.slice A5 n5 c5) = w7 at hb7 ho7 hk7 ⊢
  have bn7 : w7.heap[w.heap.size + 4 + 1]? = some (.cells #[.int .i64 0] 3 (0, 0)) := (hk7.block _ (Array.getElem?_eq_some_iff.1 bn6).1 (by omega)).trans bn6
  have ho8 := ho7.other bn7 (by decide) (by decide) (noI1 0) (grow_set w7 (w.heap.size + 4 + 1) 0 (.int .i64 (8 + (nb : Int))))
  have hb8 := heap_set w7 (w.heap.size + 4 + 1) 0 (.int .i64 (8 + (nb : Int))) _ _ bn7
  have hk8 : Kept (fun k => k ≠ w.heap.size + 4 ∧ k ≠ w.heap.size + 5) W3 (w7.setCell ⟨w.heap.size + 4 + 1, 0, none⟩ (.int .i64 (8 + (nb : Int)))) :=
    Kept.setCell ((Kept.of_ext h6).trans (hk7.mono fun k hk => hk.1)) (by simp) _
  have hv8 : (w7.setCell ⟨w.heap.size + 4 + 1, 0, none⟩ (.int .i64 (8 + (nb : Int)))).heap[w.heap.size + 4]? = _ := (Below.heap_setCell _ _ _ _ (by dsimp only; omega)).trans hb7
  generalize w7.setCell ⟨w.heap.size + 4 + 1, 0, none⟩ (.int .i64 (8 + (nb : Int))) = w8 at hv8 ho8 hb8 hk8 ⊢
  have hk9 := hk8.then_ (Ext.drew (Ext.rfl_ w8))
  have hx8 : Ext w8 w8.drew := Ext.drew (Ext.rfl_ w8)
  have ho9 := ho8.ext hx8
  have st : ∀ {k : Nat} {o : Obj}, W3.heap[k]? = some o → k ≠ w.heap.size + 4 → k ≠ w.heap.size + 5 → w8.drew.heap[k]? = some o := fun h a b => (hk9.block _ (Array.getElem?_eq_some_iff.1 h).1 ⟨a, b⟩).trans h
  refine ⟨⟨st r0 (by omega) (by omega), st r1 (by omega) (by omega), st r2 (by omega) (by omega), .inr ⟨rfl, ⟨_, _, _, _, up2 hx8 hv8, ho9⟩, ?_⟩, hk9.ext_of xt (fun j hj => by omega), Nat.le_trans sz hk9.size⟩, hk9⟩
  rw [hnb]
  exact up2 hx8 hb8

theorem rdz_ret {w Wd : World} {x : Ver} {n : Nat} (hI : RdZ w x [(0, payE x)] Wd) (hn : n = 8 + (payE x).length) : ∃ b B m d, Wd.heap[w.heap.size + 4]? = some (.cells #[.int .i64 x.next, .int .i64 x.log, .int .i64 x.index, .int .i64 x.seq, .slice B m d] 24 (0, 0)) ∧
    Wd.heap[w.heap.size + 4 + 1]? = some (.cells #[.int .i64 (n : Nat)] 3 (0, 0)) ∧
    ∀ W9, W9 = (((((((Wd.setCell ⟨w.heap.size, 0, none⟩ (.int .i64 x.next)).setCell ⟨w.heap.size, 1, none⟩ (.int .i64 x.log)).setCell ⟨w.heap.size, 2, none⟩ (.int .i64 x.index)).setCell ⟨w.heap.size, 3, none⟩ (.int .i64 x.seq)).setCell ⟨w.heap.size, 4, none⟩ (.slice B m d)).setCell ⟨w.heap.size + 1, 0, none⟩ (.int .i64 (n : Nat))).setCell ⟨w.heap.size + 1 + 1, 0, none⟩ (.bool true)) →
      W9.heap[w.heap.size]? = some (.cells #[.int .i64 x.next, .int .i64 x.log, .int .i64 x.index, .int .i64 x.seq, .slice B m d] 24 (0, 0)) ∧ W9.heap[w.heap.size + 1]? = some (.cells #[.int .i64 (n : Nat)] 3 (0, 0)) ∧ W9.heap[w.heap.size + 1 + 1]? = some (.cells #[.bool true] 4 (0, 0)) ∧
      OwnT W9 b (.slice B m d) x.ts ∧ Ext w W9 ∧ Kept (fun k => w.heap.size + 3 ≤ k) Wd W9 := by
  obtain ⟨r0, r1, r2, rv, xt, sz⟩ := hI
  obtain ⟨b, B, m, d, bv, ho, bn⟩ : ∃ b B m d, Wd.heap[w.heap.size + 4]? = some (.cells #[.int .i64 x.next, .int .i64 x.log, .int .i64 x.index, .int .i64 x.seq, .slice B m d] 24 (0, 0)) ∧ OwnT Wd b (.slice B m d) x.ts ∧ Wd.heap[w.heap.size + 4 + 1]? = some (.cells #[.int .i64 (8 + (payE x).length : Nat)] 3 (0, 0)) := by
    rcases rv with ⟨h, _⟩ | ⟨_, ⟨b, B, m, d, h1, h2⟩, h4⟩
    · cases h
    · exact ⟨b, B, m, d, h1, h2, h4⟩
  rw [← hn] at bn
  refine ⟨b, B, m, d, bv, bn, ?_⟩
  have hb7 := set5 r0 (.int .i64 x.next) (.int .i64 x.log) (.int .i64 x.index) (.int .i64 x.seq) (.slice B m d)
  have ho7 := ho.other r0 (by decide) (by decide) (noV5 _ _ _ _ _ _ _) (grown5 Wd w.heap.size (.int .i64 x.next) (.int .i64 x.log) (.int .i64 x.index) (.int .i64 x.seq) (.slice B m d))
  have hx7 := extSet5 xt (g := w.heap.size) (Nat.le_refl _) (.int .i64 x.next) (.int .i64 x.log) (.int .i64 x.index) (.int .i64 x.seq) (.slice B m d)
  have hk7 : Kept (fun k => k ≠ w.heap.size) Wd (((((Wd.setCell ⟨w.heap.size, 0, none⟩ (.int .i64 x.next)).setCell ⟨w.heap.size, 1, none⟩ (.int .i64 x.log)).setCell ⟨w.heap.size, 2, none⟩ (.int .i64 x.index)).setCell ⟨w.heap.size, 3, none⟩ (.int .i64 x.seq)).setCell ⟨w.heap.size, 4, none⟩ (.slice B m d)) :=
    Kept.setCell (Kept.setCell (Kept.setCell (Kept.setCell (Kept.setCell (Kept.rfl_ _ _) (by simp) _) (by simp) _) (by simp) _) (by simp) _) (by simp) _
  generalize ((((Wd.setCell ⟨w.heap.size, 0, none⟩ (.int .i64 x.next)).setCell ⟨w.heap.size, 1, none⟩ (.int .i64 x.log)).setCell ⟨w.heap.size, 2, none⟩ (.int .i64 x.index)).setCell ⟨w.heap.size, 3, none⟩ (.int .i64 x.seq)).setCell ⟨w.heap.size, 4, none⟩ (.slice B m d) = w7 at hb7 ho7 hx7 hk7 ⊢
  rintro W9 rfl
  have r17 := (hk7.block _ (Array.getElem?_eq_some_iff.1 r1).1 (by omega)).trans r1
  have r27 := (hk7.block _ (Array.getElem?_eq_some_iff.1 r2).1 (by omega)).trans r2
  have ho8 := ho7.other r17 (by decide) (by decide) (noI1 0) (grow_set w7 (w.heap.size + 1) 0 (.int .i64 (n : Nat)))
  have hb8 := heap_set w7 (w.heap.size + 1) 0 (.int .i64 (n : Nat)) _ _ r17
  have hc8 := (Below.heap_setCell w7 ⟨w.heap.size + 1, 0, none⟩ (.int .i64 (n : Nat)) w.heap.size (by dsimp only; omega)).trans hb7
  have hd8 := (Below.heap_setCell w7 ⟨w.heap.size + 1, 0, none⟩ (.int .i64 (n : Nat)) (w.heap.size + 1 + 1) (by dsimp only; omega)).trans r27
  have hx8 := hx7.setCell (p := ⟨w.heap.size + 1, 0, none⟩) (by dsimp only; omega) (.int .i64 (n : Nat))
  have hk8 : Kept (fun k => w.heap.size + 3 ≤ k) Wd (w7.setCell ⟨w.heap.size + 1, 0, none⟩ (.int .i64 (n : Nat))) := Kept.setCell (hk7.mono fun k hk => by omega) (by dsimp only; omega) _
  generalize w7.setCell ⟨w.heap.size + 1, 0, none⟩ (.int .i64 (n : Nat)) = w8 at ho8 hb8 hc8 hd8 hx8 hk8 ⊢
  exact ⟨(Below.heap_setCell _ _ _ _ (by dsimp only; omega)).trans hc8, (Below.heap_setCell _ _ _ _ (by dsimp only; omega)).trans hb8, heap_set w8 _ 0 _ _ _ hd8, ho8.other hd8 (by decide) (by decide) (noB1 false) (grow_set w8 _ 0 _), hx8.setCell (by dsimp only; omega) _, Kept.setCell hk8 (by dsimp only; omega) _⟩

set_option maxRecDepth 100000 in
set_option maxHeartbeats 4000000 in
theorem eRead_any : ReadsE := by
  intro x A n c w hm hn hb hnc
  have hpm := pay_may hm hn
  obtain ⟨hf1, hf2, hf3⟩ := frs_one hpm
  have hbl := hb.1
  have hpl := pay_len hm hn
  have hnb : n ≤ B40 := by unfold B40; omega
  have HM := Lib.hid hm
  have HPM := Lib.hid hpm
  have HB := Lib.hid hb
  have HNL := Lib.hid (show n = 8 + (payE x).length by omega)
  have H0 := Lib.hid (heap_alloc_new w (.cells #[.int .i64 0, .int .i64 0, .int .i64 0, .int .i64 0, .slice none 0 0] 24))
  have H1 := Lib.hid (heap_alloc_new (w.alloc (.cells #[.int .i64 0, .int .i64 0, .int .i64 0, .int .i64 0, .slice none 0 0] 24)) (.cells #[.int .i64 0] 3))
  have H2 := Lib.hid (heap_alloc_new ((w.alloc (.cells #[.int .i64 0, .int .i64 0, .int .i64 0, .int .i64 0, .slice none 0 0] 24)).alloc (.cells #[.int .i64 0] 3)) (.cells #[.bool false] 4))
  clear hb hm hpm
  refine (callsIn_wide (n := 3)).1 ?_
  refine callsIn_of_wp_marks Tryz.func9 rfl trivial ?_ rfl
  simp only [Tryz.ntmps9, List.size_toArray, List.length_cons, List.length_nil, Nat.reduceAdd, Nat.reduceSub, Array.replicate_succ, Array.replicate_zero, List.push_toArray, List.append_toArray, List.nil_append, List.cons_append]
  gi_wp2
  refine ⟨trivial, ?_⟩
  refine (callsIn_wide.2 (eempty_any _)).mono ?_
  rintro e w1 ⟨rfl, hw1, hz1⟩
  have X1 := Lib.hid (show Ext w w1 from (Ext.alloc (Ext.alloc (Ext.alloc (Ext.rfl_ w) _) _) _).trans hw1)
  have g0 := ((Ext.below (((Ext.rfl_ _).alloc _).alloc _ |>.trans hw1)).block _ (Array.getElem?_eq_some_iff.1 H0.out).1).trans H0.out
  have g1 := ((Ext.below (((Ext.rfl_ _).alloc _).trans hw1)).block _ (Array.getElem?_eq_some_iff.1 H1.out).1).trans H1.out
  have g2 := ((Ext.below hw1).block _ (Array.getElem?_eq_some_iff.1 H2.out).1).trans H2.out
  simp only [World.size_alloc] at g1 g2
  have hz1' : w1.heap.size = w.heap.size + 4 := by rw [hz1]; simp
  have HZ1 := Lib.hid hz1'
  have G0 := Lib.hid g0
  have G1 := Lib.hid g1
  have G2 := Lib.hid g2
  clear g0 g1 g2 hz1 hz1' hw1 H0 H1 H2
  gi_wp2
  refine ⟨trivial, ?_⟩
  refine (callsIn_wide.2 (frall_any _ _ _ _)).mono ?_
  rintro e w2 ⟨rfl, rfl⟩
  gi_wp2
  rw [HZ1.out]
  obtain ⟨Wa, hWa⟩ : ∃ Wa, Wa = w1.alloc (.cells #[.int .i64 1, .int .i64 0, .int .i64 0, .int .i64 0, .slice none 0 0] 24) := ⟨_, rfl⟩
  obtain ⟨Wb, hWb⟩ : ∃ Wb, Wb = Wa.alloc (.cells #[.int .i64 0] 3) := ⟨_, rfl⟩
  obtain ⟨Wc, hWc⟩ : ∃ Wc, Wc = Wb.alloc (.cells #[.slice A n c] 35) := ⟨_, rfl⟩
  have za : Wa.heap.size = w.heap.size + 5 := by rw [hWa, World.size_alloc, HZ1.out]
  have zb : Wb.heap.size = w.heap.size + 6 := by rw [hWb, World.size_alloc, za]
  have zc : Wc.heap.size = w.heap.size + 7 := by rw [hWc, World.size_alloc, zb]
  have xbc : Ext Wb Wc := by rw [hWc]; exact Ext.alloc (Ext.rfl_ _) _
  have xac : Ext Wa Wc := Ext.trans (by rw [hWb]; exact Ext.alloc (Ext.rfl_ _) _) xbc
  have x1c : Ext w1 Wc := Ext.trans (by rw [hWa]; exact Ext.alloc (Ext.rfl_ _) _) xac
  have xc : Ext w Wc := X1.out.trans x1c
  have bv := heap_alloc_new w1 (.cells #[.int .i64 1, .int .i64 0, .int .i64 0, .int .i64 0, .slice none 0 0] 24)
  rw [← hWa, HZ1.out] at bv
  have bn := heap_alloc_new Wa (.cells #[.int .i64 0] 3)
  rw [← hWb, za] at bn
  have bc := cnew Wb (.slice A n c) 35
  rw [← hWc, zb] at bc
  have up : ∀ {a b : World} {k : Nat} {o : Obj}, Ext a b → a.heap[k]? = some o → b.heap[k]? = some o := fun hx h => ((Ext.below hx).block _ (Array.getElem?_eq_some_iff.1 h).1).trans h
  rw [← hWa, ← hWb, ← hWc]
  clear hWa hWb hWc za zb
  refine range_lawE (gf := 57) (lb := #[.pointer (some ⟨w.heap.size + 6, 0, none⟩)]) rfl (enters_of Tryz.func57 (by kernel_rfl) rfl)
    (frall1_seqE A n c (w.heap.size + 6) (frmB (payE x)) (fun k => k = w.heap.size + 4 ∨ k = w.heap.size + 5) w Wc HB.out hnc hnb xc ?_ bc.1 ?_) (Ext.rfl_ _) ?_ ?_
    (RdZ w x) (fun _ _ _ => False) ?_ ?_ ?_ ?_ ?_ ?_
  · rintro k (rfl | rfl) <;> omega
  · omega
  · rintro x vs W ⟨A, n, c, rfl, _⟩; rfl
  · rintro k (rfl | rfl) <;> omega
  · rw [zc]; exact fun pre W W' h k c => h.kept k c
  · exact fun code pre W W' h => h.elim
  · exact ⟨up x1c G0.out, up x1c G1.out, up x1c G2.out, .inl ⟨rfl, up xac bv, up xbc bn⟩, xc, by omega⟩
  · rintro l2 m pre ⟨k, p⟩ vs Wd rfl hI hpre ⟨B, nb, cb, rfl, hrd, hcb⟩ hz hlo
    rw [hf2] at hpre
    obtain ⟨rfl, rfl, rfl⟩ : pre = [] ∧ k = 0 ∧ p = payE x := by
      obtain ⟨t, ht⟩ := hpre
      cases pre with
      | nil => simp at ht; exact ⟨rfl, ht.1.1, ht.1.2⟩
      | cons a l => have := congrArg List.length ht; simp at this
    simp only [List.zip_toArray, List.zip_cons_cons, List.zip_nil_right, List.foldl_toArray', List.foldl_cons, List.foldl_nil]
    have hI0 := Lib.hid hI
    have HRD := Lib.hid hrd
    clear hI hpre hrd bv bn bc up
    gi_wp2
    refine ⟨Ext.rfl_ _, fun W3 kp3 c3 => ?_⟩
    (try rw [zc] at kp3)
    obtain ⟨-, -, -, rv, xt, sz⟩ := hI0.out.kept (kp3.mono fun k hk => hk.2) c3
    have HI3 := Lib.hid (hI0.out.kept (kp3.mono fun k hk => hk.2) c3)
    obtain ⟨bv, bn⟩ : W3.heap[w.heap.size + 4]? = some (.cells #[.int .i64 1, .int .i64 0, .int .i64 0, .int .i64 0, .slice none 0 0] 24 (0, 0)) ∧ W3.heap[w.heap.size + 5]? = some (.cells #[.int .i64 0] 3 (0, 0)) := by
      rcases rv with ⟨_, h⟩ | ⟨h, _⟩
      · exact h
      · cases h
    have HRD3 := Lib.hid (HRD.out.keep c3.keeps)
    have BV := Lib.hid bv
    have BN := Lib.hid bn
    have XT := Lib.hid xt
    have SZ := Lib.hid sz
    have HNB := Lib.hid (HRD3.out.1)
    clear rv xt bv bn kp3 c3 HRD hI0
    gi_wp2
    refine ⟨trivial, fun h => (by simp [Fence.wide] at h), ?_⟩
    refine (callsIn_wide.2 (eread_any B nb cb x _ HM.out hn HRD3.out)).mono ?_
    rintro e w4 ⟨B2, d2, rfl, hl2, hd2, hw4⟩
    unfold edV
    have HL2 := Lib.hid hl2
    have X4 := Lib.hid hw4
    have H4 := Lib.hid (heap_alloc_new w4 (.cells #[.slice none 0 0, .slice B2 x.ts.length d2, .int .i64 x.next, .int .i64 x.log, .int .i64 x.index, .int .i64 x.seq] 28))
    obtain ⟨z0, z1, z2, z3, z4, _⟩ := box5 BV.out (X4.out.alloc (.cells #[.slice none 0 0, .slice B2 x.ts.length d2, .int .i64 x.next, .int .i64 x.log, .int .i64 x.index, .int .i64 x.seq] 28))
    clear hl2 hw4
    gi_wp2
    refine ⟨trivial, fun h => (by simp [Fence.wide] at h), ?_⟩
    refine (callsIn_wide.2 (do_any _ _ ver0 (wholeE x) _ ⟨none, 0, 0, rfl, RdLT.nil _ _, Nat.le_refl _⟩ ⟨none, 0, 0, B2, _, d2, rfl, RdN.nilW _ _, Nat.le_refl _, HL2.out.ext ((Ext.rfl_ _).alloc _), hd2⟩ (by decide) (by show 0 ≤ 100000; omega) (by show x.ts.length ≤ _; omega))).mono ?_
    rintro e w5 ⟨u5, z5, e5, rfl, hu5, hdo, hw5⟩
    obtain ⟨hz5, rfl⟩ := do_whole HM.out hdo
    rw [hz5] at hu5
    obtain ⟨base5, A5, n5, c5, rfl, hl5, hc5⟩ := hu5
    have HL5 := Lib.hid hl5
    have X5 := Lib.hid (show Ext W3 w5 from (X4.out.alloc _).trans hw5)
    have H5 := Lib.hid (heap_alloc_new w5 (.cells #[.int .i64 x.next, .int .i64 x.log, .int .i64 x.index, .int .i64 x.seq, .slice A5 n5 c5] 24))
    clear hl5 hdo hz5 hw5 z0 z1 z2 z3 z4
    obtain ⟨z0, z1, z2, z3, z4, y0, y1, y2, y3, y4⟩ := box5 BV.out (X5.out.alloc (.cells #[.int .i64 x.next, .int .i64 x.log, .int .i64 x.index, .int .i64 x.seq, .slice A5 n5 c5] 24))
    gi_wp2
    have hwr2 : IntKind.i64.wrap (8 + (nb : Int)) = 8 + (nb : Int) := by rw [IntKind.wrap_i64]; have := HNB.out; omega
    have HWR := Lib.hid hwr2
    clear hwr2
    have HMAY := Lib.hid (show mayF nb = true by rw [← HNB.out]; exact HPM.out)
    have u0 := X5.out
    obtain ⟨n0, n1⟩ : ((w5.alloc (.cells #[.int .i64 x.next, .int .i64 x.log, .int .i64 x.index, .int .i64 x.seq, .slice A5 n5 c5] 24)).cell? ⟨w.heap.size + 4 + 1, 0, none⟩ = some (.int .i64 0) ∧ (w5.alloc (.cells #[.int .i64 x.next, .int .i64 x.log, .int .i64 x.index, .int .i64 x.seq, .slice A5 n5 c5] 24)).frozen? ⟨w.heap.size + 4 + 1, 0, none⟩ = false) := by
      have h : (w5.alloc (.cells #[.int .i64 x.next, .int .i64 x.log, .int .i64 x.index, .int .i64 x.seq, .slice A5 n5 c5] 24)).heap[w.heap.size + 4 + 1]? = some (.cells #[.int .i64 0] 3 (0, 0)) := ((Ext.below (X5.out.alloc _)).block _ (Array.getElem?_eq_some_iff.1 BN.out).1).trans BN.out
      simp [World.cell?, World.frozen?, h]
    refine wpIn_region_rnd (by kernel_rfl) (by kernel_rfl) rfl ?_
    (try (change wpAnyIn _ _ _ _ _ _ _ _ _ (World.drew _)))
    refine wpAnyIn_take (i := 1) (oi := ({ dst := some 38, op := .move (.tmp 7), type := 3, pos := "edit.go:174", after := #[⟨6, .gcOnly .lateStores⟩], guard := none } : Go.Oper)) (v := ?v1) rfl rfl (by kernel_rfl) (by kernel_rfl) (by kernel_rfl) (fun _ _ _ h => h) ⟨Or.inl ⟨by rfl, ?hy1⟩, fun _ => rfl⟩ ?rest1
    case hy1 => (intro w; go_simp; (try with_reducible rfl))
    (try simp only [Act.put, List.getElem_toArray, List.getElem_cons_zero, List.getElem_cons_succ, List.setIfInBounds_toArray, List.set_cons_zero, List.set_cons_succ])
    refine wpAnyIn_take (i := 2) (oi := ({ dst := some 39, op := .move (.tmp 8), type := 35, pos := "edit.go:174", after := #[], guard := none } : Go.Oper)) (v := ?v2) rfl rfl (by kernel_rfl) (by kernel_rfl) (by kernel_rfl) (fun _ _ _ h => h) ⟨Or.inl ⟨by rfl, ?hy2⟩, fun _ => rfl⟩ ?rest2
    case hy2 => (intro w; go_simp; (try with_reducible rfl))
    (try simp only [Act.put, List.getElem_toArray, List.getElem_cons_zero, List.getElem_cons_succ, List.setIfInBounds_toArray, List.set_cons_zero, List.set_cons_succ])
    refine wpAnyIn_take (i := 3) (oi := ({ dst := some 40, op := .call { callee := .builtin .len, args := #[.tmp 39], argTypes := #[35] }, type := 3, pos := "edit.go:174", after := #[⟨2, .data⟩], guard := none } : Go.Oper)) (v := ?v3) rfl rfl (by kernel_rfl) (by kernel_rfl) (by kernel_rfl) (fun _ _ _ h => h) ⟨Or.inl ⟨by rfl, ?hy3⟩, fun _ => rfl⟩ ?rest3
    case hy3 => (intro w; go_simp; (try with_reducible rfl))
    (try simp only [Act.put, List.getElem_toArray, List.getElem_cons_zero, List.getElem_cons_succ, List.setIfInBounds_toArray, List.set_cons_zero, List.set_cons_succ])
    refine wpAnyIn_ready (rs := [0, 4]) (by kernel_rfl) (by simp) ?_
    refine AllReadyIn.cons (o := ({ dst := some 37, op := .load 24 (.tmp 11), type := 24, pos := "edit.go:174", after := #[], guard := none } : Go.Oper)) rfl (fun K hK => ?one4) ?more4
    case' one4 =>
      go_simp
      refine hK _ _ ?_
      clear hK K
      (try simp only [Act.put, List.getElem_toArray, List.getElem_cons_zero, List.getElem_cons_succ, List.setIfInBounds_toArray, List.set_cons_zero, List.set_cons_succ])
      refine wpAnyIn_ready (rs := [4]) (by kernel_rfl) (by simp) ?_
      refine AllReadyIn.cons (o := ({ dst := some 41, op := .call { callee := .value (.func 38), args := #[.tmp 40], argTypes := #[3] }, type := 3, pos := "edit.go:174", after := #[⟨3, .data⟩], guard := none } : Go.Oper)) rfl (fun K hK => ?_) AllReadyIn.nil
      go_simp
      refine ⟨trivial, fun h => (by simp [Fence.wide] at h), ?_⟩; refine (callsIn_wide.2 (fsize_any nb _ HMAY.out)).mono ?_; rintro e w6 ⟨rfl, rfl⟩
      refine hK _ _ ?_
      clear hK K
      (try simp only [Act.put, List.getElem_toArray, List.getElem_cons_zero, List.getElem_cons_succ, List.setIfInBounds_toArray, List.set_cons_zero, List.set_cons_succ])
      refine wpAnyIn_take (i := 5) (oi := ({ dst := some 42, op := .binOp .add 3 (.tmp 38) (.tmp 41) 3, type := 3, pos := "edit.go:174", after := #[⟨1, .data⟩, ⟨4, .data⟩, ⟨6, .gcOnly .lateStores⟩], guard := none } : Go.Oper)) (v := ?v5) rfl rfl (by kernel_rfl) (by kernel_rfl) (by kernel_rfl) (fun _ _ _ h => h) ⟨Or.inl ⟨by rfl, ?hy5⟩, fun _ => rfl⟩ ?rest5
      case hy5 => (intro w; go_simp; (try with_reducible rfl))
      (try simp only [Act.put, List.getElem_toArray, List.getElem_cons_zero, List.getElem_cons_succ, List.setIfInBounds_toArray, List.set_cons_zero, List.set_cons_succ])
      refine wpAnyIn_ready (rs := [6]) (by kernel_rfl) (by simp) ?_
      refine AllReadyIn.cons (o := ({ dst := none, op := .store 24 (.tmp 5) (.tmp 37), type := 0, pos := "edit.go:174", after := #[⟨0, .data⟩, ⟨4, .chain⟩, ⟨0, .phase⟩, ⟨1, .textOnly .lateStores⟩, ⟨2, .textOnly .lateStores⟩, ⟨3, .textOnly .lateStoresUnsure⟩, ⟨4, .textOnly .lateStoresUnsure⟩, ⟨5, .textOnly .lateStores⟩], guard := none } : Go.Oper)) rfl (fun K hK => ?_) AllReadyIn.nil
      go_simp
      refine hK _ _ ?_
      clear hK K
      (try simp only [Act.put, List.getElem_toArray, List.getElem_cons_zero, List.getElem_cons_succ, List.setIfInBounds_toArray, List.set_cons_zero, List.set_cons_succ])
      refine wpAnyIn_ready (rs := [7]) (by kernel_rfl) (by simp) ?_
      refine AllReadyIn.cons (o := ({ dst := none, op := .store 3 (.tmp 6) (.tmp 42), type := 0, pos := "edit.go:174", after := #[⟨5, .data⟩, ⟨6, .chain⟩, ⟨0, .phase⟩, ⟨1, .phase⟩, ⟨2, .phase⟩, ⟨3, .phase⟩, ⟨4, .phase⟩, ⟨5, .phase⟩, ⟨6, .phase⟩], guard := none } : Go.Oper)) rfl (fun K hK => ?_) AllReadyIn.nil
      go_simp
      refine hK _ _ ?_
      clear hK K
      (try simp only [Act.put, List.getElem_toArray, List.getElem_cons_zero, List.getElem_cons_succ, List.setIfInBounds_toArray, List.set_cons_zero, List.set_cons_succ])
      refine wpAnyIn_done (by kernel_rfl) ?_ _
    case' more4 =>
      refine AllReadyIn.cons (o := ({ dst := some 41, op := .call { callee := .value (.func 38), args := #[.tmp 40], argTypes := #[3] }, type := 3, pos := "edit.go:174", after := #[⟨3, .data⟩], guard := none } : Go.Oper)) rfl (fun K hK => ?_) AllReadyIn.nil
      go_simp
      refine ⟨trivial, fun h => (by simp [Fence.wide] at h), ?_⟩; refine (callsIn_wide.2 (fsize_any nb _ HMAY.out)).mono ?_; rintro e w6 ⟨rfl, rfl⟩
      refine hK _ _ ?_
      clear hK K
      (try simp only [Act.put, List.getElem_toArray, List.getElem_cons_zero, List.getElem_cons_succ, List.setIfInBounds_toArray, List.set_cons_zero, List.set_cons_succ])
      refine wpAnyIn_take (i := 5) (oi := ({ dst := some 42, op := .binOp .add 3 (.tmp 38) (.tmp 41) 3, type := 3, pos := "edit.go:174", after := #[⟨1, .data⟩, ⟨4, .data⟩, ⟨6, .gcOnly .lateStores⟩], guard := none } : Go.Oper)) (v := ?v6) rfl rfl (by kernel_rfl) (by kernel_rfl) (by kernel_rfl) (fun _ _ _ h => h) ⟨Or.inl ⟨by rfl, ?hy6⟩, fun _ => rfl⟩ ?rest6
      case hy6 => (intro w; go_simp; (try with_reducible rfl))
      (try simp only [Act.put, List.getElem_toArray, List.getElem_cons_zero, List.getElem_cons_succ, List.setIfInBounds_toArray, List.set_cons_zero, List.set_cons_succ])
      refine wpAnyIn_ready (rs := [0]) (by kernel_rfl) (by simp) ?_
      refine AllReadyIn.cons (o := ({ dst := some 37, op := .load 24 (.tmp 11), type := 24, pos := "edit.go:174", after := #[], guard := none } : Go.Oper)) rfl (fun K hK => ?_) AllReadyIn.nil
      go_simp
      refine hK _ _ ?_
      clear hK K
      (try simp only [Act.put, List.getElem_toArray, List.getElem_cons_zero, List.getElem_cons_succ, List.setIfInBounds_toArray, List.set_cons_zero, List.set_cons_succ])
      refine wpAnyIn_ready (rs := [6]) (by kernel_rfl) (by simp) ?_
      refine AllReadyIn.cons (o := ({ dst := none, op := .store 24 (.tmp 5) (.tmp 37), type := 0, pos := "edit.go:174", after := #[⟨0, .data⟩, ⟨4, .chain⟩, ⟨0, .phase⟩, ⟨1, .textOnly .lateStores⟩, ⟨2, .textOnly .lateStores⟩, ⟨3, .textOnly .lateStoresUnsure⟩, ⟨4, .textOnly .lateStoresUnsure⟩, ⟨5, .textOnly .lateStores⟩], guard := none } : Go.Oper)) rfl (fun K hK => ?_) AllReadyIn.nil
      go_simp
      refine hK _ _ ?_
      clear hK K
      (try simp only [Act.put, List.getElem_toArray, List.getElem_cons_zero, List.getElem_cons_succ, List.setIfInBounds_toArray, List.set_cons_zero, List.set_cons_succ])
      refine wpAnyIn_ready (rs := [7]) (by kernel_rfl) (by simp) ?_
      refine AllReadyIn.cons (o := ({ dst := none, op := .store 3 (.tmp 6) (.tmp 42), type := 0, pos := "edit.go:174", after := #[⟨5, .data⟩, ⟨6, .chain⟩, ⟨0, .phase⟩, ⟨1, .phase⟩, ⟨2, .phase⟩, ⟨3, .phase⟩, ⟨4, .phase⟩, ⟨5, .phase⟩, ⟨6, .phase⟩], guard := none } : Go.Oper)) rfl (fun K hK => ?_) AllReadyIn.nil
      go_simp
      refine hK _ _ ?_
      clear hK K
      (try simp only [Act.put, List.getElem_toArray, List.getElem_cons_zero, List.getElem_cons_succ, List.setIfInBounds_toArray, List.set_cons_zero, List.set_cons_succ])
      refine wpAnyIn_done (by kernel_rfl) ?_ _
    all_goals
      gi_wp2
      rw [HWR.out]
      obtain ⟨p1, p2⟩ := rdz_end HI3.out (X5.out.alloc (.cells #[.int .i64 x.next, .int .i64 x.log, .int .i64 x.index, .int .i64 x.seq, .slice A5 n5 c5] 24)) (HL5.out.ext (Ext.alloc (Ext.rfl_ _) _)) hc5 HNB.out
      exact ⟨p1, p2.mono fun k hk => ⟨fun e => hk.2 (.inl e), fun e => hk.2 (.inr e)⟩⟩
  · intro Wd hI hD
    rw [hf2] at hI
    obtain ⟨b9, B, m, d, bv, bn, hend⟩ := rdz_ret hI HNL.out
    obtain ⟨z0, z1, z2, z3, z4, _⟩ := box5 bv (Ext.rfl_ Wd)
    have bn0 : Wd.cell? ⟨w.heap.size + 4 + 1, 0, none⟩ = some (.int .i64 (n : Nat)) := by simp [World.cell?, bn]
    obtain ⟨y0, y1, y2, y3, y4, f0, f1, f2, f3, f4⟩ := box5 hI.r0 (Ext.rfl_ Wd)
    have yn : Wd.cell? ⟨w.heap.size + 1, 0, none⟩ = some (.int .i64 0) ∧ Wd.frozen? ⟨w.heap.size + 1, 0, none⟩ = false := by have := hI.r1; simp [World.cell?, World.frozen?, this]
    have yb : Wd.cell? ⟨w.heap.size + 1 + 1, 0, none⟩ = some (.bool false) ∧ Wd.frozen? ⟨w.heap.size + 1 + 1, 0, none⟩ = false := by have := hI.r2; simp [World.cell?, World.frozen?, this]
    obtain ⟨y5, f5⟩ := yn
    obtain ⟨y6, f6⟩ := yb
    have HEND := Lib.hid hend
    (try rw [zc] at hD)
    have HD := Lib.hid hD
    clear hend hI bv bn hD
    gi_wp2
    refine wpIn_region_any (by kernel_rfl) ?_
    (try (change wpAnyIn _ _ _ _ _ _ _ _ _ (World.drew _)))
    refine wpAnyIn_ready (rs := [0, 1]) (by kernel_rfl) (by simp) ?_
    refine AllReadyIn.cons (o := ({ dst := some 43, op := .load 24 (.tmp 5), type := 24, pos := "edit.go:176", after := #[], guard := none } : Go.Oper)) rfl (fun K hK => ?one7) ?more7
    case' one7 =>
      go_simp
      refine hK _ _ ?_
      clear hK K
      (try simp only [Act.put, List.getElem_toArray, List.getElem_cons_zero, List.getElem_cons_succ, List.setIfInBounds_toArray, List.set_cons_zero, List.set_cons_succ])
      refine wpAnyIn_ready (rs := [1, 2]) (by kernel_rfl) (by simp) ?_
      refine AllReadyIn.cons (o := ({ dst := some 44, op := .load 3 (.tmp 6), type := 3, pos := "edit.go:176", after := #[], guard := none } : Go.Oper)) rfl (fun K hK => ?one8) ?more8
      case' one8 =>
        go_simp
        refine hK _ _ ?_
        clear hK K
        (try simp only [Act.put, List.getElem_toArray, List.getElem_cons_zero, List.getElem_cons_succ, List.setIfInBounds_toArray, List.set_cons_zero, List.set_cons_succ])
        refine wpAnyIn_ready (rs := [2]) (by kernel_rfl) (by simp) ?_
        refine AllReadyIn.cons (o := ({ dst := none, op := .store 24 (.tmp 2) (.tmp 43), type := 0, pos := "edit.go:176", after := #[⟨0, .data⟩, ⟨0, .phase⟩, ⟨1, .textOnly .inlinedCapture⟩], guard := none } : Go.Oper)) rfl (fun K hK => ?_) AllReadyIn.nil
        go_simp
        refine hK _ _ ?_
        clear hK K
        (try simp only [Act.put, List.getElem_toArray, List.getElem_cons_zero, List.getElem_cons_succ, List.setIfInBounds_toArray, List.set_cons_zero, List.set_cons_succ])
        refine wpAnyIn_ready (rs := [3]) (by kernel_rfl) (by simp) ?_
        refine AllReadyIn.cons (o := ({ dst := none, op := .store 3 (.tmp 3) (.tmp 44), type := 0, pos := "edit.go:176", after := #[⟨1, .data⟩, ⟨2, .chain⟩, ⟨0, .phase⟩, ⟨1, .phase⟩, ⟨2, .phase⟩], guard := none } : Go.Oper)) rfl (fun K hK => ?_) AllReadyIn.nil
        go_simp
        refine hK _ _ ?_
        clear hK K
        (try simp only [Act.put, List.getElem_toArray, List.getElem_cons_zero, List.getElem_cons_succ, List.setIfInBounds_toArray, List.set_cons_zero, List.set_cons_succ])
        refine wpAnyIn_ready (rs := [4]) (by kernel_rfl) (by simp) ?_
        refine AllReadyIn.cons (o := ({ dst := none, op := .store 4 (.tmp 4) (.const (.bool true)), type := 0, pos := "edit.go:176", after := #[⟨3, .chain⟩, ⟨0, .phase⟩, ⟨1, .phase⟩, ⟨2, .phase⟩, ⟨3, .phase⟩], guard := none } : Go.Oper)) rfl (fun K hK => ?_) AllReadyIn.nil
        go_simp
        refine hK _ _ ?_
        clear hK K
        (try simp only [Act.put, List.getElem_toArray, List.getElem_cons_zero, List.getElem_cons_succ, List.setIfInBounds_toArray, List.set_cons_zero, List.set_cons_succ])
        refine wpAnyIn_done (by kernel_rfl) ?_ _
      case' more8 =>
        refine AllReadyIn.cons (o := ({ dst := none, op := .store 24 (.tmp 2) (.tmp 43), type := 0, pos := "edit.go:176", after := #[⟨0, .data⟩, ⟨0, .phase⟩, ⟨1, .textOnly .inlinedCapture⟩], guard := none } : Go.Oper)) rfl (fun K hK => ?_) AllReadyIn.nil
        go_simp
        refine hK _ _ ?_
        clear hK K
        (try simp only [Act.put, List.getElem_toArray, List.getElem_cons_zero, List.getElem_cons_succ, List.setIfInBounds_toArray, List.set_cons_zero, List.set_cons_succ])
        refine wpAnyIn_ready (rs := [1]) (by kernel_rfl) (by simp) ?_
        refine AllReadyIn.cons (o := ({ dst := some 44, op := .load 3 (.tmp 6), type := 3, pos := "edit.go:176", after := #[], guard := none } : Go.Oper)) rfl (fun K hK => ?_) AllReadyIn.nil
        go_simp
        refine hK _ _ ?_
        clear hK K
        (try simp only [Act.put, List.getElem_toArray, List.getElem_cons_zero, List.getElem_cons_succ, List.setIfInBounds_toArray, List.set_cons_zero, List.set_cons_succ])
        refine wpAnyIn_ready (rs := [3]) (by kernel_rfl) (by simp) ?_
        refine AllReadyIn.cons (o := ({ dst := none, op := .store 3 (.tmp 3) (.tmp 44), type := 0, pos := "edit.go:176", after := #[⟨1, .data⟩, ⟨2, .chain⟩, ⟨0, .phase⟩, ⟨1, .phase⟩, ⟨2, .phase⟩], guard := none } : Go.Oper)) rfl (fun K hK => ?_) AllReadyIn.nil
        go_simp
        refine hK _ _ ?_
        clear hK K
        (try simp only [Act.put, List.getElem_toArray, List.getElem_cons_zero, List.getElem_cons_succ, List.setIfInBounds_toArray, List.set_cons_zero, List.set_cons_succ])
        refine wpAnyIn_ready (rs := [4]) (by kernel_rfl) (by simp) ?_
        refine AllReadyIn.cons (o := ({ dst := none, op := .store 4 (.tmp 4) (.const (.bool true)), type := 0, pos := "edit.go:176", after := #[⟨3, .chain⟩, ⟨0, .phase⟩, ⟨1, .phase⟩, ⟨2, .phase⟩, ⟨3, .phase⟩], guard := none } : Go.Oper)) rfl (fun K hK => ?_) AllReadyIn.nil
        go_simp
        refine hK _ _ ?_
        clear hK K
        (try simp only [Act.put, List.getElem_toArray, List.getElem_cons_zero, List.getElem_cons_succ, List.setIfInBounds_toArray, List.set_cons_zero, List.set_cons_succ])
        refine wpAnyIn_done (by kernel_rfl) ?_ _
    case' more7 =>
      refine AllReadyIn.cons (o := ({ dst := some 44, op := .load 3 (.tmp 6), type := 3, pos := "edit.go:176", after := #[], guard := none } : Go.Oper)) rfl (fun K hK => ?_) AllReadyIn.nil
      go_simp
      refine hK _ _ ?_
      clear hK K
      (try simp only [Act.put, List.getElem_toArray, List.getElem_cons_zero, List.getElem_cons_succ, List.setIfInBounds_toArray, List.set_cons_zero, List.set_cons_succ])
      refine wpAnyIn_ready (rs := [0]) (by kernel_rfl) (by simp) ?_
      refine AllReadyIn.cons (o := ({ dst := some 43, op := .load 24 (.tmp 5), type := 24, pos := "edit.go:176", after := #[], guard := none } : Go.Oper)) rfl (fun K hK => ?_) AllReadyIn.nil
      go_simp
      refine hK _ _ ?_
      clear hK K
      (try simp only [Act.put, List.getElem_toArray, List.getElem_cons_zero, List.getElem_cons_succ, List.setIfInBounds_toArray, List.set_cons_zero, List.set_cons_succ])
      refine wpAnyIn_ready (rs := [2]) (by kernel_rfl) (by simp) ?_
      refine AllReadyIn.cons (o := ({ dst := none, op := .store 24 (.tmp 2) (.tmp 43), type := 0, pos := "edit.go:176", after := #[⟨0, .data⟩, ⟨0, .phase⟩, ⟨1, .textOnly .inlinedCapture⟩], guard := none } : Go.Oper)) rfl (fun K hK => ?_) AllReadyIn.nil
      go_simp
      refine hK _ _ ?_
      clear hK K
      (try simp only [Act.put, List.getElem_toArray, List.getElem_cons_zero, List.getElem_cons_succ, List.setIfInBounds_toArray, List.set_cons_zero, List.set_cons_succ])
      refine wpAnyIn_ready (rs := [3]) (by kernel_rfl) (by simp) ?_
      refine AllReadyIn.cons (o := ({ dst := none, op := .store 3 (.tmp 3) (.tmp 44), type := 0, pos := "edit.go:176", after := #[⟨1, .data⟩, ⟨2, .chain⟩, ⟨0, .phase⟩, ⟨1, .phase⟩, ⟨2, .phase⟩], guard := none } : Go.Oper)) rfl (fun K hK => ?_) AllReadyIn.nil
      go_simp
      refine hK _ _ ?_
      clear hK K
      (try simp only [Act.put, List.getElem_toArray, List.getElem_cons_zero, List.getElem_cons_succ, List.setIfInBounds_toArray, List.set_cons_zero, List.set_cons_succ])
      refine wpAnyIn_ready (rs := [4]) (by kernel_rfl) (by simp) ?_
      refine AllReadyIn.cons (o := ({ dst := none, op := .store 4 (.tmp 4) (.const (.bool true)), type := 0, pos := "edit.go:176", after := #[⟨3, .chain⟩, ⟨0, .phase⟩, ⟨1, .phase⟩, ⟨2, .phase⟩, ⟨3, .phase⟩], guard := none } : Go.Oper)) rfl (fun K hK => ?_) AllReadyIn.nil
      go_simp
      refine hK _ _ ?_
      clear hK K
      (try simp only [Act.put, List.getElem_toArray, List.getElem_cons_zero, List.getElem_cons_succ, List.setIfInBounds_toArray, List.set_cons_zero, List.set_cons_succ])
      refine wpAnyIn_done (by kernel_rfl) ?_ _
    all_goals
      gi_wp2
      obtain ⟨W9, hW9⟩ : ∃ W9, W9 = (((((((Wd.setCell ⟨w.heap.size, 0, none⟩ (.int .i64 x.next)).setCell ⟨w.heap.size, 1, none⟩ (.int .i64 x.log)).setCell ⟨w.heap.size, 2, none⟩ (.int .i64 x.index)).setCell ⟨w.heap.size, 3, none⟩ (.int .i64 x.seq)).setCell ⟨w.heap.size, 4, none⟩ (.slice B m d)).setCell ⟨w.heap.size + 1, 0, none⟩ (.int .i64 (n : Nat))).setCell ⟨w.heap.size + 1 + 1, 0, none⟩ (.bool true)) := ⟨_, rfl⟩
      rw [← hW9]
      obtain ⟨e0, e1, e2, eo, ex, ek⟩ := HEND.out W9 hW9
      clear hW9
      have hxd : Ext W9 W9.drew := Ext.drew (Ext.rfl_ W9)
      have hD2 : W9.drew.heap[w.heap.size + 7]? = some (.deferred (some [])) := up2 hxd ((ek.block _ (Array.getElem?_eq_some_iff.1 HD.out).1 (by omega)).trans HD.out)
      refine ⟨by simp, .inl ⟨_, _, rfl, run_takeDeferred hD2, ?_⟩⟩
      have c9 := C8.putDef hD2 (.deferred none)
      have k9 := Kept.putObj (fun k => k ≠ w.heap.size + 7) W9.drew (w.heap.size + 7) (.deferred none) (by simp)
      have o9 := (eo.ext hxd).c8 c9
      have b0 := c9 _ _ _ _ (up2 hxd e0)
      have b1 := c9 _ _ _ _ (up2 hxd e1)
      have b2 := c9 _ _ _ _ (up2 hxd e2)
      have xe := k9.ext_of (ex.trans hxd) (fun k hk => by omega)
      generalize W9.drew.putObj (w.heap.size + 7) (.deferred none) = W10 at o9 b0 b1 b2 xe ⊢
      obtain ⟨c0, c1, c2, c3, c4, _⟩ := box5 b0 (Ext.rfl_ W10)
      have cn : W10.cell? ⟨w.heap.size + 1, 0, none⟩ = some (.int .i64 (n : Nat)) := by simp [World.cell?, b1]
      have cb : W10.cell? ⟨w.heap.size + 1 + 1, 0, none⟩ = some (.bool true) := by simp [World.cell?, b2]
      obtain ⟨_, _, e, l1, l2, _⟩ := o9.form (by unfold B47; omega)
      injection e with q1 q2 q3
      refine ⟨.tuple #[.agg #[.int .i64 x.next, .int .i64 x.log, .int .i64 x.index, .int .i64 x.seq, .slice B m d], .int .i64 (n : Nat), .bool true], ?_, B, m, d, rfl, ?_, ?_, xe⟩
      · simp [results, Tryz.f9, go_sem, c0, c1, c2, c3, c4, cn, cb]
      · rw [q1, q2]; exact l2
      · rw [q2, q3]; exact l1
  · exact fun code pre Wd hp h hD => h.elim

/-- The walk of EditWhole. -/
theorem wholeW_any (v : Value) (x : Ver) (w : World) (hv : RdV w v x) : Calls Tryz.prog 3 #[v] w fun e w' => e = .returned (.bool true) ∧ Ext w w' := whole_walk eRead_any v x w hv

end Go.Proofs.YteooaplimiifiaaGreat
