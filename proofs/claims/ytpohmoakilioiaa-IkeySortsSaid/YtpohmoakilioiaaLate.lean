/- ikey.Latest: what its iterator goes over. Conditions: the list reads. -/
import Derived.Test.YtpohmoakilioiaaRise
import Derived.Scope
import Derived.RangeFuncFrom
import Derived.Shelf.Abstract
namespace Go.Proofs.Ytpohmoakilioiaa
set_option linter.unusedSimpArgs false
set_option linter.unusedVariables false
set_option maxRecDepth 100000
open Go.RowKit Go.Shelf
attribute [local go_sem] Oper.semAt_some

set_option maxHeartbeats 400000 in
theorem rising_any (A : Option Addr) (n c : Nat) (w : World) :
    Calls Try.prog 65 #[.slice A n c] w fun e w' => e = .returned (.func (.func 85) #[] #[.pointer (some ⟨w.heap.size, 0, none⟩)]) ∧ w' = w.alloc (.cells #[.slice A n c] 42) := by
  go_enter Try.func65, Try.ntmps65
  go_wp2
  go_ret
  exact ⟨rfl, rfl⟩

set_option maxHeartbeats 400000 in
theorem latest_any (A : Option Addr) (n c : Nat) (s : Int) (w : World) :
    Calls Try.prog 61 #[.slice A n c, .int .i64 s] w fun e w' => e = .returned (.func (.func 83) #[] #[.pointer (some ⟨w.heap.size, 0, none⟩), .pointer (some ⟨w.heap.size + 1, 0, none⟩)]) ∧
      w' = (w.alloc (.cells #[.slice A n c] 42)).alloc (.cells #[.int .i64 s] 2) := by
  go_enter Try.func61, Try.ntmps61
  go_wp2
  go_ret
  exact ⟨rfl, rfl⟩

/-- The latest ones up to s, behind the key p. -/
def latL (s : Int) : Bs → List Ent → List Ent
  | _, [] => []
  | p, x :: xs => if s < x.seq ∨ p = x.key then latL s p xs else x :: latL s x.key xs
/-- The last key that was told. -/
def lky (s : Int) : Bs → List Ent → Bs
  | p, [] => p
  | p, x :: xs => if s < x.seq ∨ p = x.key then lky s p xs else lky s x.key xs
theorem latL_app (s : Int) (p : Bs) (a b : List Ent) : latL s p (a ++ b) = latL s p a ++ latL s (lky s p a) b := by
  induction a generalizing p with
  | nil => rfl
  | cons x xs ih =>
    simp only [List.cons_append, latL, lky]
    split
    · exact ih p
    · rw [ih, List.cons_append]
theorem lky_app (s : Int) (p : Bs) (a b : List Ent) : lky s p (a ++ b) = lky s (lky s p a) b := by
  induction a generalizing p with
  | nil => rfl
  | cons x xs ih =>
    simp only [List.cons_append, lky]
    split
    · exact ih p
    · exact ih _
theorem latL_prefix {s : Int} {p : Bs} {a b : List Ent} (h : a <+: b) : latL s p a <+: latL s p b := by
  obtain ⟨t, rfl⟩ := h
  rw [latL_app]
  exact List.prefix_append _ _
theorem latL_skip {s : Int} {p : Bs} {pre : List Ent} {x : Ent} (h : s < x.seq ∨ lky s p pre = x.key) : latL s p (pre ++ [x]) = latL s p pre ∧ lky s p (pre ++ [x]) = lky s p pre := by
  rw [latL_app, lky_app]
  simp [latL, lky, h]
theorem latL_take {s : Int} {p : Bs} {pre : List Ent} {x : Ent} (h : ¬ (s < x.seq ∨ lky s p pre = x.key)) : latL s p (pre ++ [x]) = latL s p pre ++ [x] ∧ lky s p (pre ++ [x]) = x.key := by
  rw [latL_app, lky_app]
  simp [latL, lky, h]

/-- The blocks that are the iterator's own, its inner loop's with them. -/
def ownT (B0 : Nat) (T : Nat → Prop) (k : Nat) : Prop := T k ∨ (B0 ≤ k ∧ k < B0 + 5)

structure LatI (J : List Ent → (Nat → Prop) → World → Prop) (S : Nat → Prop) (s : Int) (w00 W : World) (l : Nat) (pre : List Ent) (T : Nat → Prop) (Wc : World) : Prop where
  j : J (latL s [] pre) (ownT W.heap.size T) Wc
  y : Wc.cell? ⟨W.heap.size, 0, none⟩ = some (.func (.yield l) #[] #[])
  last : ∃ A n c, Wc.cell? ⟨W.heap.size + 1, 0, none⟩ = some (.slice A n c) ∧ Rd w00 A n (lky s [] pre)
  fro : Wc.frozen? ⟨W.heap.size + 1, 0, none⟩ = false
  keep : Kept (fun k => k < W.heap.size ∧ ¬ S k) W Wc
  size : W.heap.size + 3 ≤ Wc.heap.size
  t : ∀ k, T k → W.heap.size + 3 ≤ k

theorem ownT_ab {B0 : Nat} {T T' : Nat → Prop} {z : Nat} (hs : ∀ k, T k → T' k) (hn : ∀ k, T' k → T k ∨ z ≤ k) : (∀ k, ownT B0 T k → ownT B0 T' k) ∧ (∀ k, ownT B0 T' k → ownT B0 T k ∨ z ≤ k) :=
  ⟨fun k h => h.imp (hs k) id, fun k h => h.elim (fun h => (hn k h).imp .inl id) (fun h => .inl (.inr h))⟩

theorem LatI.ab {J : List Ent → (Nat → Prop) → World → Prop} (hJ : AbJ J) (S : Nat → Prop) (s : Int) (w00 W : World) (l : Nat) : AbI (W.heap.size + 3) (LatI J S s w00 W l) := by
  intro pre T T' Wc W' h hk hs hn
  have hz := h.size
  refine ⟨hJ _ _ _ _ _ h.j (hk.mono fun k hx => ⟨fun h' => hx (.inl h'), fun h' => hx (.inr (by omega)), fun h' => hx (.inr (by omega))⟩) (ownT_ab hs hn).1 (ownT_ab hs hn).2, ?_, ?_, ?_, ?_, ?_, ?_⟩
  · exact hk.cell h.y ⟨fun h' => by have h2 := h.t _ h'; dsimp only at h2; omega, by simp, by simp; omega⟩
  · obtain ⟨A, n, c, h1, h2⟩ := h.last
    exact ⟨A, n, c, hk.cell h1 ⟨fun h' => by have h2 := h.t _ h'; dsimp only at h2; omega, by simp, by simp⟩, h2⟩
  · rw [hk.frozen (by simp; omega) ⟨fun h' => by have h2 := h.t _ h'; dsimp only at h2; omega, by simp, by simp⟩]; exact h.fro
  · exact h.keep.trans (hk.mono fun k hx => ⟨fun h' => by have := h.t _ h'; omega, by omega, by omega⟩)
  · exact Nat.le_trans hz hk.size
  · intro k h'
    rcases hn k h' with h' | h'
    · exact h.t k h'
    · omega

theorem LatI.move {J : List Ent → (Nat → Prop) → World → Prop} {S : Nat → Prop} {s : Int} {w00 W : World} {l : Nat} {pre pre' : List Ent} {T : Nat → Prop} {Wc W2 : World} (hJ : AbJ J) (h : LatI J S s w00 W l pre T Wc)
    (k : Kept (fun k => ¬ T k ∧ k ≠ W.heap.size + 4) Wc W2) (e1 : latL s [] pre' = latL s [] pre) (e2 : lky s [] pre' = lky s [] pre) : LatI J S s w00 W l pre' T W2 := by
  have hz := h.size
  refine ⟨?_, ?_, ?_, ?_, ?_, ?_, h.t⟩
  · rw [e1]; exact hJ _ _ _ _ _ h.j (k.mono fun k hx => ⟨fun h' => hx (.inl h'), fun h' => hx (.inr (by omega))⟩) (fun _ h => h) (fun _ h => .inl h)
  · exact k.cell h.y ⟨fun h' => by have h2 := h.t _ h'; dsimp only at h2; omega, by simp⟩
  · obtain ⟨A, n, c, h1, h2⟩ := h.last
    exact ⟨A, n, c, k.cell h1 ⟨fun h' => by have h2 := h.t _ h'; dsimp only at h2; omega, by simp⟩, by rw [e2]; exact h2⟩
  · rw [k.frozen (by simp; omega) ⟨fun h' => by have h2 := h.t _ h'; dsimp only at h2; omega, by simp⟩]; exact h.fro
  · exact h.keep.trans (k.mono fun k hx => ⟨fun h' => by have := h.t _ h'; omega, by omega⟩)
  · exact Nat.le_trans hz k.size

set_option maxRecDepth 100000 in
set_option maxHeartbeats 2000000 in
theorem latest1_seq (A : Option Addr) (n c gl gs : Nat) (s : Int) (xs : List Ent) (S : Nat → Prop) (w00 w0 : World) (hl : RdL w00 A n xs) (hnc : n ≤ c) (h0 : Ext w00 w0) (hS : ∀ k, S k → w00.heap.size ≤ k)
    (hg : w0.cell? ⟨gl, 0, none⟩ = some (.slice A n c)) (hgS : ¬ S gl) (hs : w0.cell? ⟨gs, 0, none⟩ = some (.int .i64 s)) (hsS : ¬ S gs) :
    SeqT Try.prog 83 #[.pointer (some ⟨gl, 0, none⟩), .pointer (some ⟨gs, 0, none⟩)] OkN S (latL s [] (ris none xs)) w0 := by
  intro num l J Jx W hW hJ hJx hY hJ0
  have hg1 := hW.keeps' hg
  have hs1 := hW.keeps' hs
  have hgW := cell_lt hg1
  have hsW := cell_lt hs1
  have h0W := h0.trans hW
  clear hg hs
  refine callsIn_of_wp_marks Try.func83 rfl trivial ?_ rfl
  simp only [Try.ntmps83, List.size_toArray, List.length_cons, List.length_nil, Nat.reduceAdd, Nat.reduceSub, Array.replicate_succ, Array.replicate_zero, List.push_toArray, List.append_toArray, List.nil_append, List.cons_append]
  gi_wp2
  refine wpIn_scope_wide ?_
  gi_wp2
  refine wpIn_label ?_
  gi_wp2
  refine ⟨trivial, fun h => (by simp [Fence.wide] at h), ?_⟩
  refine (callsIn_wide.2 (rising_any _ _ _ _)).mono ?_
  rintro e w' ⟨rfl, rfl⟩
  gi_wp2
  have hW5 : ∃ W5, W5 = ((W.alloc (Obj.cells #[Value.func (Fn.yield l) #[] #[]] 27)).alloc (Obj.cells #[Value.slice none 0 0] 22)).alloc (Obj.cells #[Value.slice A n c] 42) := ⟨_, rfl⟩
  obtain ⟨W5, hW5⟩ := hW5
  have hx5 : Ext W W5 := by rw [hW5]; exact (by with_reducible (repeat (first | exact Ext.rfl_ _ | assumption | refine Ext.drew ?_ | refine Ext.drewN ?_ _ | refine Ext.alloc ?_ _ | refine Ext.trans ?_ (by assumption))))
  have hz5 : W5.heap.size = W.heap.size + 3 := by rw [hW5]; simp
  rw [← hW5]
  refine range_law (gf := 85) (lb := #[.pointer (some ⟨W.heap.size + 1 + 1, 0, none⟩)]) rfl (enters_of Try.func85 (by kernel_rfl) rfl)
    (rising1_seq A n c (W.heap.size + 1 + 1) xs (fun k => (S k ∧ k < W.heap.size) ∨ k = W.heap.size + 1) w00 W5 hl hnc (h0W.trans hx5) ?_ ?_ ?_) ?_ ?_ ?_
    (LatI J S s w00 W l) (fun code pre T Wc => code = .ret ∧ Jx (latL s [] pre) (ownT W.heap.size T) Wc) ?_ ?_ ?_ ?_ ?_ ?_
  · rintro k (⟨h, _⟩ | rfl)
    · exact hS k h
    · have := h0W.size; omega
  · rw [hW5]
    have := (cnew ((W.alloc (Obj.cells #[Value.func (Fn.yield l) #[] #[]] 27)).alloc (Obj.cells #[Value.slice none 0 0] 22)) (Value.slice A n c) 42).1
    simp only [World.size_alloc] at this
    exact this
  · omega
  · exact Ext.rfl_ _
  · rintro x vs W ⟨v, rfl, _⟩; rfl
  · rintro k (⟨_, h⟩ | rfl) <;> omega
  · rw [hz5]; exact LatI.ab hJ S s w00 W l
  · intro code; rw [hz5]
    rintro pre T T' Wc W' ⟨h1, h2⟩ hk hs hn
    exact ⟨h1, hJx _ _ _ _ _ h2 (hk.mono fun k hx => ⟨fun h' => hx (.inl h'), fun h' => hx (.inr (by omega)), fun h' => hx (.inr (by omega))⟩) (ownT_ab hs hn).1 (ownT_ab hs hn).2⟩
  · have c0 := cnew W (Value.func (Fn.yield l) #[] #[]) 27
    have c1 := cnew (W.alloc (Obj.cells #[Value.func (Fn.yield l) #[] #[]] 27)) (Value.slice none 0 0) 22
    simp only [World.size_alloc] at c1
    have x1 : Ext ((W.alloc (Obj.cells #[Value.func (Fn.yield l) #[] #[]] 27)).alloc (Obj.cells #[Value.slice none 0 0] 22)) W5 := by rw [hW5]; exact (by with_reducible (repeat (first | exact Ext.rfl_ _ | assumption | refine Ext.drew ?_ | refine Ext.drewN ?_ _ | refine Ext.alloc ?_ _ | refine Ext.trans ?_ (by assumption))))
    have x0 : Ext (W.alloc (Obj.cells #[Value.func (Fn.yield l) #[] #[]] 27)) W5 := by rw [hW5]; exact (by with_reducible (repeat (first | exact Ext.rfl_ _ | assumption | refine Ext.drew ?_ | refine Ext.drewN ?_ _ | refine Ext.alloc ?_ _ | refine Ext.trans ?_ (by assumption))))
    refine ⟨hJ _ _ _ _ _ hJ0 (Kept.of_ext hx5) (fun _ h => h.elim) (fun k h => .inr (h.elim (fun h => h.elim) (fun h => h.1))), x0.keeps _ _ _ c0.1, ⟨none, 0, 0, x1.keeps _ _ _ c1.1, Rd.nil _ _⟩, ?_, Kept.of_ext hx5, by omega, fun _ h => h.elim⟩
    rw [(bcell x1).2 _ _ (by simp [World.size_alloc])]; exact c1.2
  · rintro l2 m pre x vs T Wc rfl hI hpre ⟨v, rfl, hrd, hzc⟩ hT hz _
    rw [hz5] at hT hz
    obtain ⟨B, nb, cb, B', nb', cb', rfl, hk1, hk2, hk3⟩ := id hrd
    have HE := Lib.hid hrd
    obtain ⟨A0, n0, c0, hlast, hlr⟩ := hI.last
    have hy0 := hI.y
    have hf0 := hI.fro
    clear hrd
    have hsc := hI.keep.cell hs1 ⟨hsW, hsS⟩
    have HI := Lib.hid hI
    clear hI
    simp only [List.zip_toArray, List.zip_cons_cons, List.zip_nil_right, List.foldl_toArray', List.foldl_cons, List.foldl_nil]
    gi_wp2
    have xb : Ext Wc (Wc.alloc (.cells #[.slice B nb cb, .int .i64 x.seq, .int .i64 x.kind, .slice B' nb' cb'] 25)) := (by with_reducible (repeat (first | exact Ext.rfl_ _ | assumption | refine Ext.drew ?_ | refine Ext.drewN ?_ _ | refine Ext.alloc ?_ _ | refine Ext.trans ?_ (by assumption))))
    refine ⟨xb, fun W2 kp2 => ?_⟩
    rw [hz5] at kp2
    have hbx := kp2.block Wc.heap.size (by simp) (by omega)
    rw [blk1] at hbx
    have y2 := kp2.cell (xb.keeps _ _ _ hy0) (by simp; omega)
    have l2 := kp2.cell (xb.keeps _ _ _ hlast) (by simp)
    have s2 := kp2.cell (xb.keeps _ _ _ hsc) (by simp; omega)
    have f2 : W2.frozen? ⟨W.heap.size + 1, 0, none⟩ = false := by
      rw [kp2.frozen (by simp; omega) (by simp), (bcell xb).2 _ _ (by omega)]; exact hf0
    obtain ⟨q0, q1, q2, q3, g0, g1, g2, g3⟩ := box4 hbx (Ext.rfl_ W2)
    have z2 := kp2.ext_of (hzc.trans xb) (fun k hk => by have := h0W.size; omega)
    have HX := Lib.hid hbx
    have HZ := Lib.hid z2
    have HR := Lib.hid hlr
    have HQ := Lib.hid hk1
    have HK := Lib.hid (((Kept.of_ext (X := fun k => k ≠ W.heap.size + 3 + 1) xb)).trans kp2)
    clear kp2 xb hbx z2 hy0 hlast hf0 hsc hlr hk1 hk2 hzc
    by_cases h1 : s < x.seq
    · have e := latL_skip (p := []) (pre := pre) (.inl h1 : s < x.seq ∨ lky s [] pre = x.key)
      have HE2 := Lib.hid e
      clear e
      gi_wp2
      refine ⟨trivial, ?_⟩
      gi_wp2
      exact ⟨HI.out.move hJ (HK.out.mono fun k h => h.2) HE2.out.1 HE2.out.2, Kept.rfl_ _ _⟩
    · by_cases h2 : lky s [] pre = x.key
      · have e := latL_skip (p := []) (.inr h2 : s < x.seq ∨ lky s [] pre = x.key)
        have HE2 := Lib.hid e
        have H2 := Lib.hid h2
        clear e h2
        gi_wp2
        refine ⟨trivial, fun h => (by simp [Fence.wide] at h), ?_⟩
        refine (CallsIn.inRound _ (callsIn_wide.2 (bequal_any _ _ _ _ _ _ (lky s [] pre) x.key _ (HR.out.ext HZ.out) (HQ.out.ext HZ.out)))).mono ?_
        rintro e w' ⟨rfl, rfl⟩
        rw [decide_eq_true H2.out]
        gi_wp2
        exact ⟨HI.out.move hJ (HK.out.mono fun k h => h.2) HE2.out.1 HE2.out.2, Kept.rfl_ _ _⟩
      · have hno : ¬ (s < x.seq ∨ lky s [] pre = x.key) := fun h => h.elim h1 h2
        have e := latL_take (p := []) hno
        have HE2 := Lib.hid e
        have H2 := Lib.hid h2
        clear e h2 hno
        gi_wp2
        refine ⟨trivial, fun h => (by simp [Fence.wide] at h), ?_⟩
        refine (CallsIn.inRound _ (callsIn_wide.2 (bequal_any _ _ _ _ _ _ (lky s [] pre) x.key _ (HR.out.ext HZ.out) (HQ.out.ext HZ.out)))).mono ?_
        rintro e w' ⟨rfl, rfl⟩
        rw [decide_eq_false H2.out]
        gi_wp2
        obtain ⟨W3, hW3⟩ : ∃ W3, W3 = W2.setCell ⟨W.heap.size + 1, 0, none⟩ (.slice B nb cb) := ⟨_, rfl⟩
        rw [← hW3]
        have K23 : Kept (fun k => k ≠ W.heap.size + 1) W2 W3 := by rw [hW3]; exact Kept.setCell (Kept.rfl_ _ _) (by simp) _
        have hzW := HI.out.size
        have hz2 := HK.out.size
        have hz3 := K23.size
        have y3 := K23.cell y2 (by simp)
        have l3 : W3.cell? ⟨W.heap.size + 1, 0, none⟩ = some (.slice B nb cb) := by rw [hW3]; exact World.cell?_setCell_same' _ _ _ (by rw [l2]; rfl)
        have f3 : W3.frozen? ⟨W.heap.size + 1, 0, none⟩ = false := by rw [hW3, World.frozen?_setCell]; exact f2
        have bx3 := K23.block _ (Array.getElem?_eq_some_iff.1 HX.out).1 (by omega)
        rw [HX.out] at bx3
        have z3 := K23.ext_of HZ.out (fun k hk => by have := h0W.size; omega)
        clear y2 l2 q0 q1 q2 q3 g0 g1 g2 g3
        obtain ⟨q0, q1, q2, q3, _, _, _, _⟩ := box4 bx3 (Ext.rfl_ W3)
        have HL3 := Lib.hid l3
        have HF3 := Lib.hid f3
        have HZ3 := Lib.hid z3
        have HK3 := Lib.hid K23
        have HB := Lib.hid bx3
        clear l3 f3 z3 K23 hW3 bx3
        refine wpIn_region_any (by kernel_rfl) ?_
        (try (change wpAnyIn _ _ _ _ _ _ _ _ _ (World.drew _)))
        refine wpAnyIn_ready (rs := [0, 1]) (by kernel_rfl) (by simp) ?_
        refine AllReadyIn.cons (o := ({ dst := some 21, op := .load 27 (.tmp 3), type := 27, pos := "ikey.go:144", after := #[], guard := none } : Go.Oper)) rfl (fun K hK => ?one1) ?more1
        case' one1 =>
          go_simp
          refine hK _ _ ?_
          clear hK K
          (try simp only [Act.put, List.getElem_toArray, List.getElem_cons_zero, List.getElem_cons_succ, List.setIfInBounds_toArray, List.set_cons_zero, List.set_cons_succ])
          refine wpAnyIn_ready (rs := [1]) (by kernel_rfl) (by simp) ?_
          refine AllReadyIn.cons (o := ({ dst := some 22, op := .load 25 (.tmp 5), type := 25, pos := "ikey.go:144", after := #[], guard := none } : Go.Oper)) rfl (fun K hK => ?_) AllReadyIn.nil
          go_simp
          refine hK _ _ ?_
          clear hK K
          (try simp only [Act.put, List.getElem_toArray, List.getElem_cons_zero, List.getElem_cons_succ, List.setIfInBounds_toArray, List.set_cons_zero, List.set_cons_succ])
          refine wpAnyIn_ready (rs := [2]) (by kernel_rfl) (by simp) ?_
          refine AllReadyIn.cons (o := ({ dst := some 23, op := .call { callee := .value (.func 32), args := #[.tmp 22], argTypes := #[25] }, type := 25, pos := "ikey.go:144", after := #[⟨1, .data⟩], guard := none } : Go.Oper)) rfl (fun K hK => ?_) AllReadyIn.nil
          go_simp
          refine ⟨trivial, fun h => (by simp [Fence.wide] at h), ?_⟩; refine (CallsIn.inRound _ (callsIn_wide.2 (copy_any _ x _ (HE.out.ext (Ext.drew HZ3.out))))).mono ?_; rintro e w3 ⟨v3, rfl, hv3, hw3⟩; have y4 := Ext.keeps' hw3 (v := .func (.yield l) #[] #[]) (p := ⟨W.heap.size, 0, none⟩) y3
          refine hK _ _ ?_
          clear hK K
          (try simp only [Act.put, List.getElem_toArray, List.getElem_cons_zero, List.getElem_cons_succ, List.setIfInBounds_toArray, List.set_cons_zero, List.set_cons_succ])
          refine wpAnyIn_ready (rs := [3]) (by kernel_rfl) (by simp) ?_
          refine AllReadyIn.cons (o := ({ dst := some 24, op := .call { callee := .value (.tmp 21), args := #[.tmp 23], argTypes := #[25] }, type := 4, pos := "ikey.go:144", after := #[⟨0, .data⟩, ⟨2, .data⟩, ⟨2, .chain⟩], guard := none } : Go.Oper)) rfl (fun K hK => ?_) AllReadyIn.nil
          go_simp
          have hx3 : Ext W3 w3 := (by with_reducible (repeat (first | exact Ext.rfl_ _ | assumption | refine Ext.drew ?_ | refine Ext.drewN ?_ _ | refine Ext.alloc ?_ _ | refine Ext.trans ?_ (by assumption)))); obtain ⟨fn, tmps, assign, body, hy, hR⟩ := hY (latL s [] pre) x #[v3] (ownT W.heap.size T) w3 (m - 1) (hJ _ (ownT W.heap.size T) (ownT W.heap.size T) Wc w3 HI.out.j (((HK.out.mono fun k hk h' => hk (.inr (by omega))).trans (HK3.out.mono fun k hk h' => hk (.inr (by omega)))).then_ hx3) (fun _ h => h) (fun _ h => .inl h)) (by rw [← HE2.out.1]; exact latL_prefix hpre) ⟨v3, rfl, hv3⟩ (fun k hk => hk.elim (fun h => ⟨by have := hT k h; omega, by have := hT k h; have := hx3.size; omega⟩) (fun h => ⟨h.1, by have := hx3.size; omega⟩)) (by have := hx3.size; omega); rw [hy]; refine ⟨fun h => (by simp [Fence.wide] at h), ?_⟩; refine RoundIn.mono hR ?_; rintro e W4 hE; obtain ⟨bb, rfl, hB⟩ : ∃ bb : Bool, e = .returned (.bool bb) ∧ ((bb = true ∧ J (latL s [] pre ++ [x]) (ownT W.heap.size T) W4 ∧ Kept (fun k => ownT W.heap.size T k ∨ k < W.heap.size ∧ ¬S k) w3 W4) ∨ (bb = false ∧ Jx (latL s [] pre ++ [x]) (ownT W.heap.size T) W4 ∧ Kept (ownT W.heap.size T) w3 W4)) := hE.elim (fun h => ⟨_, h.1, .inl ⟨rfl, h.2⟩⟩) (fun h => ⟨_, h.1, .inr ⟨rfl, h.2⟩⟩)
          refine hK _ _ ?_
          clear hK K
          (try simp only [Act.put, List.getElem_toArray, List.getElem_cons_zero, List.getElem_cons_succ, List.setIfInBounds_toArray, List.set_cons_zero, List.set_cons_succ])
          refine wpAnyIn_ready (rs := [4]) (by kernel_rfl) (by simp) ?_
          refine AllReadyIn.cons (o := ({ dst := some 25, op := .unOp .not 4 (.tmp 24), type := 4, pos := "ikey.go:144", after := #[⟨3, .data⟩], guard := none } : Go.Oper)) rfl (fun K hK => ?_) AllReadyIn.nil
          go_simp
          refine hK _ _ ?_
          clear hK K
          (try simp only [Act.put, List.getElem_toArray, List.getElem_cons_zero, List.getElem_cons_succ, List.setIfInBounds_toArray, List.set_cons_zero, List.set_cons_succ])
          refine wpAnyIn_done (by kernel_rfl) ?_ _
        case' more1 =>
          refine AllReadyIn.cons (o := ({ dst := some 22, op := .load 25 (.tmp 5), type := 25, pos := "ikey.go:144", after := #[], guard := none } : Go.Oper)) rfl (fun K hK => ?_) AllReadyIn.nil
          go_simp
          refine hK _ _ ?_
          clear hK K
          (try simp only [Act.put, List.getElem_toArray, List.getElem_cons_zero, List.getElem_cons_succ, List.setIfInBounds_toArray, List.set_cons_zero, List.set_cons_succ])
          refine wpAnyIn_ready (rs := [0, 2]) (by kernel_rfl) (by simp) ?_
          refine AllReadyIn.cons (o := ({ dst := some 21, op := .load 27 (.tmp 3), type := 27, pos := "ikey.go:144", after := #[], guard := none } : Go.Oper)) rfl (fun K hK => ?one2) ?more2
          case' one2 =>
            go_simp
            refine hK _ _ ?_
            clear hK K
            (try simp only [Act.put, List.getElem_toArray, List.getElem_cons_zero, List.getElem_cons_succ, List.setIfInBounds_toArray, List.set_cons_zero, List.set_cons_succ])
            refine wpAnyIn_ready (rs := [2]) (by kernel_rfl) (by simp) ?_
            refine AllReadyIn.cons (o := ({ dst := some 23, op := .call { callee := .value (.func 32), args := #[.tmp 22], argTypes := #[25] }, type := 25, pos := "ikey.go:144", after := #[⟨1, .data⟩], guard := none } : Go.Oper)) rfl (fun K hK => ?_) AllReadyIn.nil
            go_simp
            refine ⟨trivial, fun h => (by simp [Fence.wide] at h), ?_⟩; refine (CallsIn.inRound _ (callsIn_wide.2 (copy_any _ x _ (HE.out.ext (Ext.drew HZ3.out))))).mono ?_; rintro e w3 ⟨v3, rfl, hv3, hw3⟩; have y4 := Ext.keeps' hw3 (v := .func (.yield l) #[] #[]) (p := ⟨W.heap.size, 0, none⟩) y3
            refine hK _ _ ?_
            clear hK K
            (try simp only [Act.put, List.getElem_toArray, List.getElem_cons_zero, List.getElem_cons_succ, List.setIfInBounds_toArray, List.set_cons_zero, List.set_cons_succ])
            refine wpAnyIn_ready (rs := [3]) (by kernel_rfl) (by simp) ?_
            refine AllReadyIn.cons (o := ({ dst := some 24, op := .call { callee := .value (.tmp 21), args := #[.tmp 23], argTypes := #[25] }, type := 4, pos := "ikey.go:144", after := #[⟨0, .data⟩, ⟨2, .data⟩, ⟨2, .chain⟩], guard := none } : Go.Oper)) rfl (fun K hK => ?_) AllReadyIn.nil
            go_simp
            have hx3 : Ext W3 w3 := (by with_reducible (repeat (first | exact Ext.rfl_ _ | assumption | refine Ext.drew ?_ | refine Ext.drewN ?_ _ | refine Ext.alloc ?_ _ | refine Ext.trans ?_ (by assumption)))); obtain ⟨fn, tmps, assign, body, hy, hR⟩ := hY (latL s [] pre) x #[v3] (ownT W.heap.size T) w3 (m - 1) (hJ _ (ownT W.heap.size T) (ownT W.heap.size T) Wc w3 HI.out.j (((HK.out.mono fun k hk h' => hk (.inr (by omega))).trans (HK3.out.mono fun k hk h' => hk (.inr (by omega)))).then_ hx3) (fun _ h => h) (fun _ h => .inl h)) (by rw [← HE2.out.1]; exact latL_prefix hpre) ⟨v3, rfl, hv3⟩ (fun k hk => hk.elim (fun h => ⟨by have := hT k h; omega, by have := hT k h; have := hx3.size; omega⟩) (fun h => ⟨h.1, by have := hx3.size; omega⟩)) (by have := hx3.size; omega); rw [hy]; refine ⟨fun h => (by simp [Fence.wide] at h), ?_⟩; refine RoundIn.mono hR ?_; rintro e W4 hE; obtain ⟨bb, rfl, hB⟩ : ∃ bb : Bool, e = .returned (.bool bb) ∧ ((bb = true ∧ J (latL s [] pre ++ [x]) (ownT W.heap.size T) W4 ∧ Kept (fun k => ownT W.heap.size T k ∨ k < W.heap.size ∧ ¬S k) w3 W4) ∨ (bb = false ∧ Jx (latL s [] pre ++ [x]) (ownT W.heap.size T) W4 ∧ Kept (ownT W.heap.size T) w3 W4)) := hE.elim (fun h => ⟨_, h.1, .inl ⟨rfl, h.2⟩⟩) (fun h => ⟨_, h.1, .inr ⟨rfl, h.2⟩⟩)
            refine hK _ _ ?_
            clear hK K
            (try simp only [Act.put, List.getElem_toArray, List.getElem_cons_zero, List.getElem_cons_succ, List.setIfInBounds_toArray, List.set_cons_zero, List.set_cons_succ])
            refine wpAnyIn_ready (rs := [4]) (by kernel_rfl) (by simp) ?_
            refine AllReadyIn.cons (o := ({ dst := some 25, op := .unOp .not 4 (.tmp 24), type := 4, pos := "ikey.go:144", after := #[⟨3, .data⟩], guard := none } : Go.Oper)) rfl (fun K hK => ?_) AllReadyIn.nil
            go_simp
            refine hK _ _ ?_
            clear hK K
            (try simp only [Act.put, List.getElem_toArray, List.getElem_cons_zero, List.getElem_cons_succ, List.setIfInBounds_toArray, List.set_cons_zero, List.set_cons_succ])
            refine wpAnyIn_done (by kernel_rfl) ?_ _
          case' more2 =>
            refine AllReadyIn.cons (o := ({ dst := some 23, op := .call { callee := .value (.func 32), args := #[.tmp 22], argTypes := #[25] }, type := 25, pos := "ikey.go:144", after := #[⟨1, .data⟩], guard := none } : Go.Oper)) rfl (fun K hK => ?_) AllReadyIn.nil
            go_simp
            refine ⟨trivial, fun h => (by simp [Fence.wide] at h), ?_⟩; refine (CallsIn.inRound _ (callsIn_wide.2 (copy_any _ x _ (HE.out.ext (Ext.drew HZ3.out))))).mono ?_; rintro e w3 ⟨v3, rfl, hv3, hw3⟩; have y4 := Ext.keeps' hw3 (v := .func (.yield l) #[] #[]) (p := ⟨W.heap.size, 0, none⟩) y3
            refine hK _ _ ?_
            clear hK K
            (try simp only [Act.put, List.getElem_toArray, List.getElem_cons_zero, List.getElem_cons_succ, List.setIfInBounds_toArray, List.set_cons_zero, List.set_cons_succ])
            refine wpAnyIn_ready (rs := [0]) (by kernel_rfl) (by simp) ?_
            refine AllReadyIn.cons (o := ({ dst := some 21, op := .load 27 (.tmp 3), type := 27, pos := "ikey.go:144", after := #[], guard := none } : Go.Oper)) rfl (fun K hK => ?_) AllReadyIn.nil
            go_simp
            refine hK _ _ ?_
            clear hK K
            (try simp only [Act.put, List.getElem_toArray, List.getElem_cons_zero, List.getElem_cons_succ, List.setIfInBounds_toArray, List.set_cons_zero, List.set_cons_succ])
            refine wpAnyIn_ready (rs := [3]) (by kernel_rfl) (by simp) ?_
            refine AllReadyIn.cons (o := ({ dst := some 24, op := .call { callee := .value (.tmp 21), args := #[.tmp 23], argTypes := #[25] }, type := 4, pos := "ikey.go:144", after := #[⟨0, .data⟩, ⟨2, .data⟩, ⟨2, .chain⟩], guard := none } : Go.Oper)) rfl (fun K hK => ?_) AllReadyIn.nil
            go_simp
            have hx3 : Ext W3 w3 := (by with_reducible (repeat (first | exact Ext.rfl_ _ | assumption | refine Ext.drew ?_ | refine Ext.drewN ?_ _ | refine Ext.alloc ?_ _ | refine Ext.trans ?_ (by assumption)))); obtain ⟨fn, tmps, assign, body, hy, hR⟩ := hY (latL s [] pre) x #[v3] (ownT W.heap.size T) w3 (m - 1) (hJ _ (ownT W.heap.size T) (ownT W.heap.size T) Wc w3 HI.out.j (((HK.out.mono fun k hk h' => hk (.inr (by omega))).trans (HK3.out.mono fun k hk h' => hk (.inr (by omega)))).then_ hx3) (fun _ h => h) (fun _ h => .inl h)) (by rw [← HE2.out.1]; exact latL_prefix hpre) ⟨v3, rfl, hv3⟩ (fun k hk => hk.elim (fun h => ⟨by have := hT k h; omega, by have := hT k h; have := hx3.size; omega⟩) (fun h => ⟨h.1, by have := hx3.size; omega⟩)) (by have := hx3.size; omega); rw [hy]; refine ⟨fun h => (by simp [Fence.wide] at h), ?_⟩; refine RoundIn.mono hR ?_; rintro e W4 hE; obtain ⟨bb, rfl, hB⟩ : ∃ bb : Bool, e = .returned (.bool bb) ∧ ((bb = true ∧ J (latL s [] pre ++ [x]) (ownT W.heap.size T) W4 ∧ Kept (fun k => ownT W.heap.size T k ∨ k < W.heap.size ∧ ¬S k) w3 W4) ∨ (bb = false ∧ Jx (latL s [] pre ++ [x]) (ownT W.heap.size T) W4 ∧ Kept (ownT W.heap.size T) w3 W4)) := hE.elim (fun h => ⟨_, h.1, .inl ⟨rfl, h.2⟩⟩) (fun h => ⟨_, h.1, .inr ⟨rfl, h.2⟩⟩)
            refine hK _ _ ?_
            clear hK K
            (try simp only [Act.put, List.getElem_toArray, List.getElem_cons_zero, List.getElem_cons_succ, List.setIfInBounds_toArray, List.set_cons_zero, List.set_cons_succ])
            refine wpAnyIn_ready (rs := [4]) (by kernel_rfl) (by simp) ?_
            refine AllReadyIn.cons (o := ({ dst := some 25, op := .unOp .not 4 (.tmp 24), type := 4, pos := "ikey.go:144", after := #[⟨3, .data⟩], guard := none } : Go.Oper)) rfl (fun K hK => ?_) AllReadyIn.nil
            go_simp
            refine hK _ _ ?_
            clear hK K
            (try simp only [Act.put, List.getElem_toArray, List.getElem_cons_zero, List.getElem_cons_succ, List.setIfInBounds_toArray, List.set_cons_zero, List.set_cons_succ])
            refine wpAnyIn_done (by kernel_rfl) ?_ _
        all_goals
          have hx3 : Ext W3 w3 := (by with_reducible (repeat (first | exact Ext.rfl_ _ | assumption | refine Ext.drew ?_ | refine Ext.drewN ?_ _ | refine Ext.alloc ?_ _ | refine Ext.trans ?_ (by assumption))))
          have HX3 := Lib.hid hx3
          have hz4 := hx3.size
          have hTT : ∀ k, T k → W.heap.size + 5 ≤ k := fun k h => by have := hT k h; omega
          clear hx3
          rcases hB with ⟨rfl, hJ4, hk4⟩ | ⟨rfl, hJ4, hk4⟩
          · have HJ4 := Lib.hid hJ4
            have HK4 := Lib.hid hk4
            clear hJ4 hk4
            gi_wp2
            refine ⟨⟨?_, ?_, ?_, ?_, ?_, ?_, HI.out.t⟩, ?_⟩
            · rw [HE2.out.1]; exact HJ4.out
            · exact HK4.out.cell (HX3.out.keeps _ _ _ y3) (.inl (.inr ⟨Nat.le_refl _, by simp⟩))
            · exact ⟨B, nb, cb, HK4.out.cell (HX3.out.keeps _ _ _ HL3.out) (.inl (.inr ⟨by simp, by simp⟩)), by rw [HE2.out.2]; exact HQ.out⟩
            · rw [HK4.out.frozen (by simp; omega) (.inl (.inr ⟨by simp, by simp⟩)), (bcell HX3.out).2 _ _ (by omega)]; exact HF3.out
            · exact (((HI.out.keep.trans (HK.out.mono fun k h => by have := h.1; omega)).trans (HK3.out.mono fun k h => by have := h.1; omega)).then_ HX3.out).trans (HK4.out.mono fun k h => .inr h)
            · have := HK4.out.size; omega
            · refine ((HK3.out.mono fun k h e => ?_).then_ HX3.out).trans (HK4.out.mono fun k h => ?_)
              · rcases h with h | h
                · have := hTT k h; omega
                · exact h.2 (.inr e)
              · rcases h with h | h
                · exact .inl (.inl h)
                · by_cases hlt : k < W.heap.size
                  · exact .inr ⟨hlt, fun h' => h.2 (.inl ⟨h', hlt⟩)⟩
                  · exact .inl (.inr ⟨by omega, by omega⟩)
          · have HJ4 := Lib.hid hJ4
            have HK4 := Lib.hid hk4
            clear hJ4 hk4
            gi_wp2
            refine ⟨⟨rfl, ?_⟩, ?_⟩
            · rw [HE2.out.1]; exact HJ4.out
            · refine ((HK3.out.mono fun k h e => ?_).then_ HX3.out).trans (HK4.out.mono fun k h => ?_)
              · rcases h with h | h
                · have := hTT k h; omega
                · omega
              · rcases h with h | h
                · exact .inl h
                · exact .inr ⟨by omega, by omega⟩
  · intro T Wd hI hD
    gi_wp2
    simp only [Exit.noGoto]
    refine ⟨by simp, .inl ⟨_, _, rfl, run_takeDeferred hD, ?_⟩⟩
    exact ⟨_, results_none rfl _ _ _, ⟨_, rfl⟩, .inl ⟨ownT W.heap.size T, hJ _ _ _ _ _ hI.j (Kept.putObj _ _ _ _ (fun h => h (.inr (by omega)))) (fun _ h => h) (fun _ h => .inl h)⟩⟩
  · rintro code pre T Wd hp ⟨rfl, hI⟩ hD
    gi_wp2
    simp only [Exit.noGoto]
    refine ⟨by simp, .inl ⟨_, _, rfl, run_takeDeferred hD, ?_⟩⟩
    exact ⟨_, results_none rfl _ _ _, ⟨_, rfl⟩, .inr ⟨latL s [] pre, ownT W.heap.size T, latL_prefix hp, hJx _ _ _ _ _ hI (Kept.putObj _ _ _ _ (fun h => h (.inr (by omega)))) (fun _ h => h) (fun _ h => .inl h)⟩⟩

end Go.Proofs.Ytpohmoakilioiaa
