/- What edit.Do answers, decided; the law's tables in memory. Conditions: none. -/
import Derived.Test.YteooaplimiifiaaGreatEdOver
import Derived.Test.YteooaplimiifiaaGreatEdDo
namespace Go.Proofs.YteooaplimiifiaaGreat
set_option linter.unusedSimpArgs false
set_option linter.unusedVariables false
set_option maxRecDepth 100000
open Go.RowKit

theorem mayT_pairs (x : Ver) : MayT x ↔ headT x ∧ (∀ t ∈ x.ts, okT x t) ∧ x.ts.Pairwise pairR := by
  rw [may_same]
  constructor
  · rintro ⟨h1, h2⟩
    refine ⟨h1, fun t ht => ?_, ?_⟩
    · obtain ⟨i, hi, rfl⟩ := List.mem_iff_getElem.1 ht
      exact (h2 i _ hi (List.getElem?_eq_getElem hi)).1
    · rw [List.pairwise_iff_getElem]
      intro i j hi hj hij
      exact (h2 j _ hj (List.getElem?_eq_getElem hj)).2 i _ hij (List.getElem?_eq_getElem hi)
  · rintro ⟨h1, h2, h3⟩
    refine ⟨h1, fun i t hi ht => ?_⟩
    obtain ⟨hl, rfl⟩ := List.getElem?_eq_some_iff.1 ht
    refine ⟨h2 _ (List.getElem_mem hl), fun j u hj hu => ?_⟩
    obtain ⟨hl2, rfl⟩ := List.getElem?_eq_some_iff.1 hu
    exact (List.pairwise_iff_getElem.1 h3) j i hl2 hl hj

instance (x : Ver) : Decidable (headT x) := by unfold headT; infer_instance
instance (x : Ver) (t : Tab) : Decidable (okT x t) := by unfold okT; infer_instance
instance (u t : Tab) : Decidable (pairR u t) := by unfold pairR; infer_instance
def mayB (x : Ver) : Bool := decide (headT x) && x.ts.all (fun t => decide (okT x t)) && decide (x.ts.Pairwise pairR)
theorem mayB_iff (x : Ver) : mayB x = true ↔ MayT x := by
  rw [mayT_pairs]
  unfold mayB
  simp only [Bool.and_eq_true, decide_eq_true_eq, List.all_eq_true]
  exact ⟨fun h => ⟨h.1.1, h.1.2, h.2⟩, fun h => ⟨⟨h.1, h.2.1⟩, h.2.2⟩⟩
instance (x : Ver) (y : Edt) : Decidable (DoOk x y) := by unfold DoOk; infer_instance

theorem do_yes {x : Ver} {y : Edt} {z : Ver} {err : Int} (h : DoR x y z err) (h1 : y.drop.Nodup) (h2 : MayT x) (h3 : DoOk x y) (h4 : MayT (outT y (srtT (keptT x y ++ y.add)))) : z = outT y (srtT (keptT x y ++ y.add)) ∧ err = 0 := by
  obtain ⟨S, hp, hs, k1, k2⟩ := (h.2 h1 h2).2 h3
  have hs2 := sort_same (y := y) hp hs
  have hm := hs2.1.2 h4
  rw [← hs2.2 hm]
  exact k1 hm
theorem do_no {x : Ver} {y : Edt} {z : Ver} {err : Int} (h : DoR x y z err) (h1 : y.drop.Nodup) (h2 : MayT x) (h3 : ¬ (DoOk x y ∧ MayT (outT y (srtT (keptT x y ++ y.add))))) : z = nilV ∧ err = 9 := by
  by_cases h4 : DoOk x y
  · obtain ⟨S, hp, hs, k1, k2⟩ := (h.2 h1 h2).2 h4
    have hs2 := sort_same (y := y) hp hs
    exact k2 fun hm => h3 ⟨h4, hs2.1.1 hm⟩
  · exact (h.2 h1 h2).1 h4

/-! ### the chapter's rows -/
def kt1 : Tab := ⟨1, 0, [97], [99], 1⟩
def kt2 : Tab := ⟨2, 1, [97], [98], 1⟩
def kt3 : Tab := ⟨3, 1, [99], [99], 1⟩
def kt4 : Tab := ⟨4, 1, [98], [100], 1⟩
def kv0 : Ver := ⟨1, 0, 0, 0, []⟩
def ke1 : Edt := ⟨[], [kt1], 2, 0, 0, 3⟩
def kv1 : Ver := ⟨2, 0, 0, 3, [kt1]⟩
def ke2 : Edt := ⟨[1], [kt3, kt2], 4, 0, 0, 3⟩
def kv2 : Ver := ⟨4, 0, 0, 3, [kt2, kt3]⟩
def ke3 : Edt := ⟨[], [kt4], 5, 0, 0, 3⟩
theorem kdo1 {z : Ver} {err : Int} (h : DoR kv0 ke1 z err) : z = kv1 ∧ err = 0 := do_yes h (by decide) ((mayB_iff _).1 (by decide)) (by decide) ((mayB_iff _).1 (by decide))
theorem kdo2 {z : Ver} {err : Int} (h : DoR kv1 ke2 z err) : z = kv2 ∧ err = 0 := do_yes h (by decide) ((mayB_iff _).1 (by decide)) (by decide) ((mayB_iff _).1 (by decide))
theorem kdo3 {z : Ver} {err : Int} (h : DoR kv2 ke3 z err) : z = nilV ∧ err = 9 := do_no h (by decide) ((mayB_iff _).1 (by decide)) fun k => absurd ((mayB_iff _).2 k.2) (by decide)
theorem kover : kv2.ts.filter (ovP 1 [98] [99]) = [kt2, kt3] := by decide

theorem cellAt {w : World} {g : Nat} {cs : Array Value} {t : TypeId} (h : w.heap[g]? = some (.cells cs t (0, 0))) (i : Nat) : w.cell? ⟨g, i, none⟩ = cs[i]? := by
  unfold World.cell?
  simp only [h]
  rfl
/-- Tables in a block of their own. -/
theorem rdLT_one {w : World} {A : Option Addr} {n c : Nat} {B : Option Addr} {m d : Nat} {t : Tab} (h : RdT w (.agg #[.int .i64 t.num, .int .i64 t.lvl, .slice A n c, .slice B m d, .int .i64 t.size]) t) :
    RdLT (w.alloc (.cells #[.int .i64 t.num, .int .i64 t.lvl, .slice A n c, .slice B m d, .int .i64 t.size] 42)) (some ⟨w.heap.size, 0, none⟩) 1 [t] := by
  refine ⟨rfl, by decide, fun _ => ⟨_, 0, rfl, fun k hk => ?_⟩⟩
  obtain rfl : k = 0 := by simp at hk; exact hk
  obtain ⟨c0, c1, c2, c3, c4, _⟩ := box5 (heap_alloc_new w (.cells #[.int .i64 t.num, .int .i64 t.lvl, .slice A n c, .slice B m d, .int .i64 t.size] 42)) (Ext.rfl_ _)
  exact ⟨A, n, c, B, m, d, ⟨c0, c1, c2, c3, c4⟩, h.ext (Ext.alloc (Ext.rfl_ _) _)⟩
theorem rdLT_two {w : World} {A A' : Option Addr} {n c n' c' : Nat} {B B' : Option Addr} {m d m' d' : Nat} {t t' : Tab} (h : RdT w (.agg #[.int .i64 t.num, .int .i64 t.lvl, .slice A n c, .slice B m d, .int .i64 t.size]) t) (h' : RdT w (.agg #[.int .i64 t'.num, .int .i64 t'.lvl, .slice A' n' c', .slice B' m' d', .int .i64 t'.size]) t') :
    RdLT (w.alloc (.cells #[.int .i64 t.num, .int .i64 t.lvl, .slice A n c, .slice B m d, .int .i64 t.size, .int .i64 t'.num, .int .i64 t'.lvl, .slice A' n' c', .slice B' m' d', .int .i64 t'.size] 42)) (some ⟨w.heap.size, 0, none⟩) 2 [t, t'] := by
  have hb := heap_alloc_new w (.cells #[.int .i64 t.num, .int .i64 t.lvl, .slice A n c, .slice B m d, .int .i64 t.size, .int .i64 t'.num, .int .i64 t'.lvl, .slice A' n' c', .slice B' m' d', .int .i64 t'.size] 42)
  refine ⟨rfl, by decide, fun _ => ⟨_, 0, rfl, fun k hk => ?_⟩⟩
  match k, hk with
  | 0, _ => exact ⟨A, n, c, B, m, d, ⟨cellAt hb 0, cellAt hb 1, cellAt hb 2, cellAt hb 3, cellAt hb 4⟩, h.ext (Ext.alloc (Ext.rfl_ _) _)⟩
  | 1, _ => exact ⟨A', n', c', B', m', d', ⟨cellAt hb 5, cellAt hb 6, cellAt hb 7, cellAt hb 8, cellAt hb 9⟩, h'.ext (Ext.alloc (Ext.rfl_ _) _)⟩
theorem rdN_one (w : World) (z : Int) (hz : I64 z) : RdN (w.alloc (.cells #[.int .i64 z] 2)) (some ⟨w.heap.size, 0, none⟩) 1 [z] := by
  have hb := heap_alloc_new w (.cells #[.int .i64 z] 2)
  refine ⟨rfl, by decide, fun _ => ⟨_, 0, rfl, fun k hk => ?_⟩, fun y hy => by simp at hy; subst hy; exact hz⟩
  obtain rfl : k = 0 := by simp at hk; exact hk
  exact cellAt hb 0
theorem three_b (w : World) (o0 o1 o2 : Obj) : ((((w.alloc o0).alloc o1).alloc o2).heap[w.heap.size]? = some o0) ∧ ((((w.alloc o0).alloc o1).alloc o2).heap[w.heap.size + 1]? = some o1) ∧ ((((w.alloc o0).alloc o1).alloc o2).heap[w.heap.size + 1 + 1]? = some o2) := by
  have hp : ∀ (w : World) (o : Obj), (w.alloc o).heap = w.heap.push o := fun _ _ => rfl
  simp only [hp, Array.getElem?_push, Array.size_push]
  refine ⟨?_, ?_, ?_⟩ <;> (repeat (first | rfl | rw [if_neg (by omega)]))
theorem rdN_nil (w : World) (A : Option Addr) : RdN w A 0 [] := ⟨rfl, Nat.zero_le _, fun h => absurd h (by omega), fun z hz => absurd hz (by simp)⟩

theorem blkX {W W' : World} {g : Nat} {o : Obj} (h : W.heap[g]? = some o) (hx : Ext W W') : W'.heap[g]? = some o := ((Ext.below hx).block g (Array.getElem?_eq_some_iff.1 h).1).trans h
theorem k_alloc {α : Type} {K : α → World → Prop} {a : α} {W w0 : World} {o : Obj} (hx : Ext w0 W) (h : (W.alloc o).heap[W.heap.size]? = some o ∧ w0.heap.size ≤ W.heap.size → K a (W.alloc o)) : K a (W.alloc o) := h ⟨heap_alloc_new W o, hx.size⟩
theorem k_allocD {α : Type} {K : α → World → Prop} {a : α} {W w0 : World} {o : Obj} (hx : Ext w0 W) (h : (W.alloc o).heap[W.heap.size]? = some o ∧ w0.heap.size ≤ W.heap.size → K a (W.alloc o).drew) : K a (W.alloc o).drew := h ⟨heap_alloc_new W o, hx.size⟩
theorem rdT1 {w : World} {g : Nat} {A : Option Addr} {n c : Nat} {B : Option Addr} {m d : Nat} {t : Tab} {a b e : Value} (hb : w.heap[g]? = some (.cells #[a, b, .slice A n c, .slice B m d, e] 42 (0, 0))) (ha : a = .int .i64 t.num) (hbb : b = .int .i64 t.lvl) (he : e = .int .i64 t.size) (h : RdT w (.agg #[.int .i64 t.num, .int .i64 t.lvl, .slice A n c, .slice B m d, .int .i64 t.size]) t) :
    RdLT w (some ⟨g, 0, none⟩) 1 [t] := by
  subst ha hbb he
  refine ⟨rfl, by decide, fun _ => ⟨_, 0, rfl, fun k hk => ?_⟩⟩
  obtain rfl : k = 0 := by simp at hk; exact hk
  exact ⟨A, n, c, B, m, d, ⟨cellAt hb 0, cellAt hb 1, cellAt hb 2, cellAt hb 3, cellAt hb 4⟩, h⟩
theorem rdT2 {w : World} {g : Nat} {A A' : Option Addr} {n c n' c' : Nat} {B B' : Option Addr} {m d m' d' : Nat} {t t' : Tab} {a b e a' b' e' : Value} (hb : w.heap[g]? = some (.cells #[a, b, .slice A n c, .slice B m d, e, a', b', .slice A' n' c', .slice B' m' d', e'] 42 (0, 0)))
    (ha : a = .int .i64 t.num) (hbb : b = .int .i64 t.lvl) (he : e = .int .i64 t.size) (ha' : a' = .int .i64 t'.num) (hbb' : b' = .int .i64 t'.lvl) (he' : e' = .int .i64 t'.size)
    (h : RdT w (.agg #[.int .i64 t.num, .int .i64 t.lvl, .slice A n c, .slice B m d, .int .i64 t.size]) t) (h' : RdT w (.agg #[.int .i64 t'.num, .int .i64 t'.lvl, .slice A' n' c', .slice B' m' d', .int .i64 t'.size]) t') :
    RdLT w (some ⟨g, 0, none⟩) 2 [t, t'] := by
  subst ha hbb he ha' hbb' he'
  refine ⟨rfl, by decide, fun _ => ⟨_, 0, rfl, fun k hk => ?_⟩⟩
  match k, hk with
  | 0, _ => exact ⟨A, n, c, B, m, d, ⟨cellAt hb 0, cellAt hb 1, cellAt hb 2, cellAt hb 3, cellAt hb 4⟩, h⟩
  | 1, _ => exact ⟨A', n', c', B', m', d', ⟨cellAt hb 5, cellAt hb 6, cellAt hb 7, cellAt hb 8, cellAt hb 9⟩, h'⟩
theorem rdN1 {w : World} {g : Nat} {z : Int} (hb : w.heap[g]? = some (.cells #[.int .i64 z] 2 (0, 0))) (hz : I64 z) : RdN w (some ⟨g, 0, none⟩) 1 [z] := by
  refine ⟨rfl, by decide, fun _ => ⟨_, 0, rfl, fun k hk => ?_⟩, fun y hy => by simp at hy; subst hy; exact hz⟩
  obtain rfl : k = 0 := by simp at hk; exact hk
  exact cellAt hb 0

theorem ownT_rd {w : World} {base n c : Nat} {A : Option Addr} {xs : List Tab} (h : OwnT w base (.slice A n c) xs) (hb : xs.length ≤ B47) : n ≤ c ∧ RdLT w A n xs := by
  obtain ⟨_, _, e, h1, h2, _⟩ := h.form hb
  injection e with e1 e2 e3
  subst e1 e2 e3
  exact ⟨h1, h2⟩

theorem kdo2_any (A2 : Option Addr) (c2 : Nat) (D L : Option Addr) (w : World) (h : RdLT w A2 1 kv1.ts) (hc : 1 ≤ c2) (hd : RdN w D 1 [1]) (hl : RdLT w L 2 [kt3, kt2]) :
    Calls Tryz.prog 7 #[.agg #[.int .i64 2, .int .i64 0, .int .i64 0, .int .i64 3, .slice A2 1 c2], .agg #[.slice D 1 1, .slice L 2 2, .int .i64 4, .int .i64 0, .int .i64 0, .int .i64 3]] w fun e w' =>
      ∃ b A c, e = .returned (.tuple #[.agg #[.int .i64 4, .int .i64 0, .int .i64 0, .int .i64 3, .slice A 2 c], .int .i64 0]) ∧ OwnT w' b (.slice A 2 c) [kt2, kt3] ∧ 2 ≤ c ∧ Ext w w' := by
  refine (do_any _ _ kv1 ke2 w ⟨_, _, _, rfl, h, hc⟩ ⟨_, _, _, _, _, _, rfl, hd, Nat.le_refl _, hl, Nat.le_refl _⟩ (by decide) (by decide) (by decide)).mono ?_
  rintro e wd ⟨u4, z4, err4, rfl, hu, hdo, hx⟩
  obtain ⟨rfl, rfl⟩ := kdo2 hdo
  obtain ⟨b4, A4, n4, c4, rfl, ho4, _⟩ := hu
  obtain ⟨hc4, hr4⟩ := ownT_rd ho4 (by decide)
  obtain rfl : 2 = n4 := hr4.1
  exact ⟨b4, A4, c4, rfl, ho4, hc4, hx⟩

set_option maxRecDepth 100000 in
set_option maxHeartbeats 4000000 in
theorem ltab_any (z l : Int) (a b : UInt8) (w : World) (hz : I64 z) (hl : I64 l) :
    Calls Tryz.prog 11 #[.int .i64 z, .int .i64 l, .int .u8 a.toNat, .int .u8 b.toNat] w fun e w' => ∃ A c B d, e = .returned (.agg #[.int .i64 z, .int .i64 l, .slice A 1 c, .slice B 1 d, .int .i64 1]) ∧
      RdT w' (.agg #[.int .i64 z, .int .i64 l, .slice A 1 c, .slice B 1 d, .int .i64 1]) ⟨z, l, [a], [b], 1⟩ ∧ Ext w w' := by
  obtain ⟨h0, h1, h2⟩ := three_b w (.cells #[.int .i64 z, .int .i64 l, .slice (some ⟨w.heap.size + 1, 0, none⟩) 1 1, .slice (some ⟨w.heap.size + 1 + 1, 0, none⟩) 1 1, .int .i64 1] 42) (.cells #[.int .u8 a.toNat] 5) (.cells #[.int .u8 b.toNat] 5)
  obtain ⟨z0, z1, z2, z3, z4, _⟩ := box5 h0 (Ext.rfl_ _)
  have hr : ∀ (q : Nat) (x : UInt8) (W : World), W.heap[q]? = some (.cells #[.int .u8 x.toNat] 5 (0, 0)) → Rd W (some ⟨q, 0, none⟩) 1 [x] := fun q x W h => ⟨rfl, fun _ => ⟨q, 0, rfl, fun j hj => by
    obtain rfl : j = 0 := by simp at hj; exact hj
    exact cellAt h 0⟩⟩
  go_enter Tryz.func11, Tryz.ntmps11
  go_wp2
  refine bodyPost_ret (v := .agg #[.int .i64 z, .int .i64 l, .slice (some ⟨w.heap.size + 1, 0, none⟩) 1 1, .slice (some ⟨w.heap.size + 1 + 1, 0, none⟩) 1 1, .int .i64 1]) (by simp [results, Tryz.f11, go_sem, z0, z1, z2, z3, z4]) rfl ?_
  exact ⟨_, _, _, _, rfl, ⟨_, _, _, _, _, _, rfl, hr _ _ _ h1, hr _ _ _ h2, Nat.le_refl _, by decide, Nat.le_refl _, by decide, hz, hl, ⟨by show _ ≤ (1 : Int); decide, by show (1 : Int) ≤ _; decide⟩⟩, (by with_reducible (repeat (first | exact Ext.rfl_ _ | assumption | refine Ext.drew ?_ | refine Ext.drewN ?_ _ | refine Ext.alloc ?_ _ | refine Ext.trans ?_ (by assumption))))⟩

end Go.Proofs.YteooaplimiifiaaGreat
