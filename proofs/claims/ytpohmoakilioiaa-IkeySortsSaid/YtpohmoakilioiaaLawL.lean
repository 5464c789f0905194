/- The law's own 'latest': it is true where the wanted ones are the latest ones. Conditions: the lists read. -/
import Derived.Test.YtpohmoakilioiaaLate
import Derived.Test.YtpohmoakilioiaaSame
namespace Go.Proofs.Ytpohmoakilioiaa
set_option linter.unusedSimpArgs false
set_option linter.unusedVariables false
set_option maxRecDepth 100000
open Go.RowKit Go.Shelf
attribute [local go_sem] Oper.semAt_some

theorem rsame_self (u v : Value) (x : Ent) (w : World) (hx : RdE w u x) (hy : RdE w v x) :
    Calls Try.prog 23 #[u, v] w fun e w' => e = .returned (.bool true) ∧ Ext w w' := by
  have := rsame_any u v x x w hx hy
  simpa using this

structure LawI (w : World) (A' : Option Addr) (n' c' : Nat) (most : Int) (pre : List Ent) (T : Nat → Prop) (Wc : World) : Prop where
  want : Wc.cell? ⟨w.heap.size, 0, none⟩ = some (.slice A' n' c')
  most_ : Wc.cell? ⟨w.heap.size + 1, 0, none⟩ = some (.int .i64 most)
  res : ∃ b, Wc.cell? ⟨w.heap.size + 1 + 1, 0, none⟩ = some (.bool b)
  resF : Wc.frozen? ⟨w.heap.size + 1 + 1, 0, none⟩ = false
  num : Wc.cell? ⟨w.heap.size + 1 + 1 + 1, 0, none⟩ = some (.int .i64 pre.length)
  numF : Wc.frozen? ⟨w.heap.size + 1 + 1 + 1, 0, none⟩ = false
  ext : Ext w Wc
  size : w.heap.size + 6 ≤ Wc.heap.size
  t : ∀ k, T k → w.heap.size + 6 ≤ k

structure LawX (w : World) (T : Nat → Prop) (Wc : World) : Prop where
  res : Wc.cell? ⟨w.heap.size + 1 + 1, 0, none⟩ = some (.bool true)
  ext : Ext w Wc
  size : w.heap.size + 6 ≤ Wc.heap.size
  t : ∀ k, T k → w.heap.size + 6 ≤ k

theorem LawI.kept {w : World} {A' : Option Addr} {n' c' : Nat} {most : Int} {pre : List Ent} {T T' : Nat → Prop} {Wc W' : World} (h : LawI w A' n' c' most pre T Wc)
    (k : Kept (fun k => k < w.heap.size + 6) Wc W') (ht : ∀ k, T' k → w.heap.size + 6 ≤ k) : LawI w A' n' c' most pre T' W' := by
  have hz := h.size
  refine ⟨k.cell h.want (by simp), k.cell h.most_ (by simp), ?_, ?_, k.cell h.num (by simp), ?_, k.ext_of h.ext (fun j hj => by omega), Nat.le_trans hz k.size, ht⟩
  · obtain ⟨b, hb⟩ := h.res; exact ⟨b, k.cell hb (by simp)⟩
  · rw [k.frozen (by simp; omega) (by simp)]; exact h.resF
  · rw [k.frozen (by simp; omega) (by simp)]; exact h.numF
theorem LawX.kept {w : World} {T T' : Nat → Prop} {Wc W' : World} (h : LawX w T Wc)
    (k : Kept (fun k => k < w.heap.size + 6) Wc W') (ht : ∀ k, T' k → w.heap.size + 6 ≤ k) : LawX w T' W' := by
  have hz := h.size
  exact ⟨k.cell h.res (by simp), k.ext_of h.ext (fun j hj => by omega), Nat.le_trans hz k.size, ht⟩

theorem LawI.ab (w : World) (A' : Option Addr) (n' c' : Nat) (most : Int) : AbI (w.heap.size + 6) (LawI w A' n' c' most) := by
  intro pre T T' Wc W' h hk hs hn
  have hz := h.size
  exact h.kept (hk.mono fun k hx => ⟨fun h' => by have := h.t _ h'; omega, by omega, by omega⟩) (fun k h' => (hn k h').elim (h.t k) (fun h => by omega))
theorem LawX.ab {α : Type} (w : World) (code : Code) : AbI (α := α) (w.heap.size + 6) (fun _ T Wc => code = .ret ∧ LawX w T Wc) := by
  rintro pre T T' Wc W' ⟨h1, h⟩ hk hs hn
  have hz := h.size
  exact ⟨h1, h.kept (hk.mono fun k hx => ⟨fun h' => by have := h.t _ h'; omega, by omega, by omega⟩) (fun k h' => (hn k h').elim (h.t k) (fun h => by omega))⟩

set_option maxRecDepth 100000 in
set_option maxHeartbeats 4000000 in
theorem lawLatest_any (A : Option Addr) (n c : Nat) (xs : List Ent) (s : Int) (A' : Option Addr) (n' c' : Nat) (most : Int) (w : World) (hl : RdL w A n xs) (hnc : n ≤ c) (hw : RdL w A' n' (latL s [] (ris none xs))) :
    Calls Try.prog 26 #[.slice A n c, .int .i64 s, .slice A' n' c', .int .i64 most] w fun e w' => e = .returned (.bool true) ∧ Ext w w' := by
  refine (callsIn_wide (n := 3)).1 ?_
  have hnil := fun (w : World) (f : Fn) (x y : Array Value) => run_eql_func_nil w 85 f x y Try.underlying85
  refine callsIn_of_wp_marks Try.func26 rfl trivial ?_ rfl
  simp only [Try.ntmps26, List.size_toArray, List.length_cons, List.length_nil, Nat.reduceAdd, Nat.reduceSub, Array.replicate_succ, Array.replicate_zero, List.push_toArray, List.append_toArray, List.nil_append, List.cons_append]
  gi_wp2
  refine ⟨trivial, ?_⟩
  refine (callsIn_wide.2 (latest_any _ _ _ _ _)).mono ?_
  rintro e w' ⟨rfl, rfl⟩
  gi_wp2
  have hW : ∃ W5, W5 = (((((w.alloc (.cells #[.slice A' n' c'] 42)).alloc (.cells #[.int .i64 most] 3)).alloc (.cells #[.bool false] 4)).alloc (.cells #[.int .i64 0] 3)).alloc (.cells #[.slice A n c] 42)).alloc (.cells #[.int .i64 s] 2) := ⟨_, rfl⟩
  obtain ⟨W5, hW5⟩ := hW
  have hz5 : W5.heap.size = w.heap.size + 6 := by rw [hW5]; simp
  have ha : ∃ W1, W1 = w.alloc (.cells #[.slice A' n' c'] 42) := ⟨_, rfl⟩
  obtain ⟨W1, hW1⟩ := ha
  have hb : ∃ W2, W2 = W1.alloc (.cells #[.int .i64 most] 3) := ⟨_, rfl⟩
  obtain ⟨W2, hW2⟩ := hb
  have hc : ∃ W3, W3 = W2.alloc (.cells #[.bool false] 4) := ⟨_, rfl⟩
  obtain ⟨W3, hW3⟩ := hc
  have hd : ∃ W4, W4 = W3.alloc (.cells #[.int .i64 0] 3) := ⟨_, rfl⟩
  obtain ⟨W4, hW4⟩ := hd
  have he : ∃ W6, W6 = W4.alloc (.cells #[.slice A n c] 42) := ⟨_, rfl⟩
  obtain ⟨W6, hW6⟩ := he
  have h56 : W5 = W6.alloc (.cells #[.int .i64 s] 2) := by rw [hW5, hW6, hW4, hW3, hW2, hW1]
  have z1 : W1.heap.size = w.heap.size + 1 := by rw [hW1, World.size_alloc]
  have z2 : W2.heap.size = w.heap.size + 1 + 1 := by rw [hW2, World.size_alloc, z1]
  have z3 : W3.heap.size = w.heap.size + 1 + 1 + 1 := by rw [hW3, World.size_alloc, z2]
  have z4 : W4.heap.size = w.heap.size + 1 + 1 + 1 + 1 := by rw [hW4, World.size_alloc, z3]
  have z6 : W6.heap.size = w.heap.size + 1 + 1 + 1 + 1 + 1 := by rw [hW6, World.size_alloc, z4]
  have x6 : Ext W6 W5 := by rw [h56]; exact Ext.alloc (Ext.rfl_ _) _
  have x4 : Ext W4 W5 := Ext.trans (by rw [hW6]; exact Ext.alloc (Ext.rfl_ _) _) x6
  have x3 : Ext W3 W5 := Ext.trans (by rw [hW4]; exact Ext.alloc (Ext.rfl_ _) _) x4
  have x2 : Ext W2 W5 := Ext.trans (by rw [hW3]; exact Ext.alloc (Ext.rfl_ _) _) x3
  have x1 : Ext W1 W5 := Ext.trans (by rw [hW2]; exact Ext.alloc (Ext.rfl_ _) _) x2
  have x0 : Ext w W5 := Ext.trans (by rw [hW1]; exact Ext.alloc (Ext.rfl_ _) _) x1
  have q0 := cnew w (.slice A' n' c') 42
  rw [← hW1] at q0
  have q1 := cnew W1 (.int .i64 most) 3
  rw [← hW2, z1] at q1
  have q2 := cnew W2 (.bool false) 4
  rw [← hW3, z2] at q2
  have q3 := cnew W3 (.int .i64 0) 3
  rw [← hW4, z3] at q3
  have q4 := cnew W4 (.slice A n c) 42
  rw [← hW6, z4] at q4
  have q5 := cnew W6 (.int .i64 s) 2
  rw [← h56, z6] at q5
  rw [← hW5]
  trace_state
  refine range_law (gf := 83) (lb := #[.pointer (some ⟨w.heap.size + 1 + 1 + 1 + 1, 0, none⟩), .pointer (some ⟨w.heap.size + 1 + 1 + 1 + 1 + 1, 0, none⟩)]) rfl (enters_of Try.func83 (by kernel_rfl) rfl)
    (latest1_seq A n c (w.heap.size + 1 + 1 + 1 + 1) (w.heap.size + 1 + 1 + 1 + 1 + 1) s xs (fun k => k = w.heap.size + 2 ∨ k = w.heap.size + 3) w W5 hl hnc x0 ?_ ?_ ?_ ?_ ?_) ?_ ?_ ?_
    (LawI w A' n' c' most) (fun code _ T Wc => code = .ret ∧ LawX w T Wc) ?_ ?_ ?_ ?_ ?_ ?_
  · rintro k (rfl | rfl) <;> omega
  · exact x6.keeps _ _ _ q4.1
  · omega
  · exact q5.1
  · omega
  · exact Ext.rfl_ _
  · rintro x vs W ⟨v, rfl, _⟩; rfl
  · rintro k (rfl | rfl) <;> omega
  · rw [hz5]; exact LawI.ab w A' n' c' most
  · intro code; rw [hz5]; exact LawX.ab w code
  · refine ⟨x1.keeps _ _ _ q0.1, x2.keeps _ _ _ q1.1, ⟨false, x3.keeps _ _ _ q2.1⟩, ?_, x4.keeps _ _ _ q3.1, ?_, x0, by omega, fun _ h => h.elim⟩
    · rw [(bcell x3).2 _ _ (by omega)]; exact q2.2
    · rw [(bcell x4).2 _ _ (by omega)]; exact q3.2
  · rintro l2 m pre x vs T Wc rfl hI hpre ⟨v, rfl, hrd⟩ hT hz hlo
    rw [hz5] at hT hz hlo
    have hlen := hw.1
    have hq := hw.2.1
    unfold B41 at hq
    have hkn : pre.length < n' := by rw [← hlen]; have := hpre.length_le; simp at this; omega
    obtain ⟨b, o, A1, n1, c1, A2, n2, c2, y, rfl, hy, ⟨d0, d1, d2, d3⟩, hry⟩ := hw.at_ pre.length hkn
    have hxy : y = x := by
      obtain ⟨t, ht⟩ := hpre
      rw [← ht] at hy
      simp at hy
      exact hy.symm
    subst hxy
    have HE := Lib.hid hrd
    obtain ⟨B, nb, cb, B', nb', cb', rfl, _⟩ := hrd
    simp only [List.zip_toArray, List.zip_cons_cons, List.zip_nil_right, List.foldl_toArray', List.foldl_cons, List.foldl_nil]
    have hI0 := Lib.hid hI
    have HY := Lib.hid hry
    clear hI hry hy hlen hpre
    gi_wp2
    have xb : Ext Wc (Wc.alloc (.cells #[.slice B nb cb, .int .i64 y.seq, .int .i64 y.kind, .slice B' nb' cb'] 25)) := (by with_reducible (repeat (first | exact Ext.rfl_ _ | assumption | refine Ext.drew ?_ | refine Ext.drewN ?_ _ | refine Ext.alloc ?_ _ | refine Ext.trans ?_ (by assumption))))
    refine ⟨xb, fun W2 kp2 => ?_⟩
    rw [hz5] at kp2
    have hbx := kp2.block Wc.heap.size (by simp) (by omega)
    rw [blk1] at hbx
    have hI2 := hI0.out.kept (T' := T) ((Kept.of_ext (X := fun k => k < w.heap.size + 6) xb).trans (kp2.mono fun k hk => by omega)) hI0.out.t
    have hlo2 : ∃ r, (Wc.alloc (.cells #[.slice B nb cb, .int .i64 y.seq, .int .i64 y.kind, .slice B' nb' cb'] 25)).heap[w.heap.size + 6 + 1]? = some (.loop r) := hlo.imp fun r h => ((Ext.below xb).block _ (Array.getElem?_eq_some_iff.1 h).1).trans h
    have hE2 := (HE.out.ext xb).kept kp2 hlo2
    obtain ⟨r0, r1, r2, r3, _, _, _, _⟩ := box4 hbx (Ext.rfl_ W2)
    obtain ⟨i1, i2, ⟨b0, i3⟩, i4, i5, i6, i7, i8, i9⟩ := id hI2
    have e0 := i7.keeps _ _ _ d0
    have e1 := i7.keeps _ _ _ d1
    have e2 := i7.keeps _ _ _ d2
    have e3 := i7.keeps _ _ _ d3
    have hlt : (pre.length : Int) < (n' : Int) := by omega
    have hnl : decide ((n' : Int) ≤ (pre.length : Int)) = false := decide_eq_false (by omega)
    have H2 := Lib.hid hI2
    have HE2 := Lib.hid hE2
    have HB := Lib.hid hbx
    clear hI2 hE2 hbx kp2 xb hlo hlo2 d0 d1 d2 d3 i7 HE hw hl
    gi_wp2
    refine wpIn_region_any (by kernel_rfl) ?_
    (try (change wpAnyIn _ _ _ _ _ _ _ _ _ (World.drew _)))
    refine wpAnyIn_ready (rs := [0, 1]) (by kernel_rfl) (by simp) ?_
    refine AllReadyIn.cons (o := ({ dst := some 19, op := .load 3 (.tmp 9), type := 3, pos := "law.go:43", after := #[], guard := none } : Go.Oper)) rfl (fun K hK => ?one1) ?more1
    case' one1 =>
      go_simp
      refine hK _ _ ?_
      clear hK K
      (try simp only [Act.put, List.getElem_toArray, List.getElem_cons_zero, List.getElem_cons_succ, List.setIfInBounds_toArray, List.set_cons_zero, List.set_cons_succ])
      refine wpAnyIn_ready (rs := [1]) (by kernel_rfl) (by simp) ?_
      refine AllReadyIn.cons (o := ({ dst := some 20, op := .load 42 (.tmp 6), type := 42, pos := "law.go:43", after := #[], guard := none } : Go.Oper)) rfl (fun K hK => ?_) AllReadyIn.nil
      go_simp
      refine hK _ _ ?_
      clear hK K
      (try simp only [Act.put, List.getElem_toArray, List.getElem_cons_zero, List.getElem_cons_succ, List.setIfInBounds_toArray, List.set_cons_zero, List.set_cons_succ])
      refine wpAnyIn_ready (rs := [2]) (by kernel_rfl) (by simp) ?_
      refine AllReadyIn.cons (o := ({ dst := some 21, op := .call { callee := .builtin .len, args := #[.tmp 20], argTypes := #[42] }, type := 3, pos := "law.go:43", after := #[⟨1, .data⟩], guard := none } : Go.Oper)) rfl (fun K hK => ?_) AllReadyIn.nil
      go_simp
      refine hK _ _ ?_
      clear hK K
      (try simp only [Act.put, List.getElem_toArray, List.getElem_cons_zero, List.getElem_cons_succ, List.setIfInBounds_toArray, List.set_cons_zero, List.set_cons_succ])
      refine wpAnyIn_ready (rs := [3]) (by kernel_rfl) (by simp) ?_
      refine AllReadyIn.cons (o := ({ dst := some 22, op := .binOp .geq 3 (.tmp 19) (.tmp 21) 3, type := 4, pos := "law.go:43", after := #[⟨0, .data⟩, ⟨2, .data⟩], guard := none } : Go.Oper)) rfl (fun K hK => ?_) AllReadyIn.nil
      go_simp
      refine hK _ _ ?_
      clear hK K
      (try simp only [Act.put, List.getElem_toArray, List.getElem_cons_zero, List.getElem_cons_succ, List.setIfInBounds_toArray, List.set_cons_zero, List.set_cons_succ])
      refine wpAnyIn_ready (rs := [4]) (by kernel_rfl) (by simp) ?_
      refine AllReadyIn.cons (o := ({ dst := some 23, op := .move (.tmp 22), type := 4, pos := "law.go:43", after := #[⟨3, .data⟩], guard := none } : Go.Oper)) rfl (fun K hK => ?_) AllReadyIn.nil
      go_simp
      refine hK _ _ ?_
      clear hK K
      (try simp only [Act.put, List.getElem_toArray, List.getElem_cons_zero, List.getElem_cons_succ, List.setIfInBounds_toArray, List.set_cons_zero, List.set_cons_succ])
      refine wpAnyIn_ready (rs := [5, 6, 7]) (by kernel_rfl) (by simp) ?_
      refine AllReadyIn.cons (o := ({ dst := some 24, op := .load 25 (.tmp 11), type := 25, pos := "law.go:43", after := #[⟨4, .guard⟩], guard := some (4, false) } : Go.Oper)) rfl (fun K hK => ?one2) ?more2
      case' one2 =>
        go_simp
        refine hK _ _ ?_
        clear hK K
        (try simp only [Act.put, List.getElem_toArray, List.getElem_cons_zero, List.getElem_cons_succ, List.setIfInBounds_toArray, List.set_cons_zero, List.set_cons_succ])
        refine wpAnyIn_ready (rs := [6, 7]) (by kernel_rfl) (by simp) ?_
        refine AllReadyIn.cons (o := ({ dst := some 25, op := .load 42 (.tmp 6), type := 42, pos := "law.go:43", after := #[⟨4, .guard⟩], guard := some (4, false) } : Go.Oper)) rfl (fun K hK => ?one3) ?more3
        case' one3 =>
          go_simp
          refine hK _ _ ?_
          clear hK K
          (try simp only [Act.put, List.getElem_toArray, List.getElem_cons_zero, List.getElem_cons_succ, List.setIfInBounds_toArray, List.set_cons_zero, List.set_cons_succ])
          refine wpAnyIn_ready (rs := [7]) (by kernel_rfl) (by simp) ?_
          refine AllReadyIn.cons (o := ({ dst := some 26, op := .load 3 (.tmp 9), type := 3, pos := "law.go:43", after := #[⟨4, .guard⟩], guard := some (4, false) } : Go.Oper)) rfl (fun K hK => ?_) AllReadyIn.nil
          go_simp
          refine hK _ _ ?_
          clear hK K
          (try simp only [Act.put, List.getElem_toArray, List.getElem_cons_zero, List.getElem_cons_succ, List.setIfInBounds_toArray, List.set_cons_zero, List.set_cons_succ])
          refine wpAnyIn_ready (rs := [8]) (by kernel_rfl) (by simp) ?_
          refine AllReadyIn.cons (o := ({ dst := some 27, op := .indexAddr 42 (.tmp 25) (.tmp 26), type := 0, pos := "law.go:43", after := #[⟨6, .data⟩, ⟨7, .data⟩, ⟨4, .guard⟩], guard := some (4, false) } : Go.Oper)) rfl (fun K hK => ?_) AllReadyIn.nil
          go_simp
          refine hK _ _ ?_
          clear hK K
          (try simp only [Act.put, List.getElem_toArray, List.getElem_cons_zero, List.getElem_cons_succ, List.setIfInBounds_toArray, List.set_cons_zero, List.set_cons_succ])
          refine wpAnyIn_ready (rs := [9]) (by kernel_rfl) (by simp) ?_
          refine AllReadyIn.cons (o := ({ dst := some 28, op := .load 25 (.tmp 27), type := 25, pos := "law.go:43", after := #[⟨8, .data⟩, ⟨4, .guard⟩], guard := some (4, false) } : Go.Oper)) rfl (fun K hK => ?_) AllReadyIn.nil
          go_simp
          refine hK _ _ ?_
          clear hK K
          (try simp only [Act.put, List.getElem_toArray, List.getElem_cons_zero, List.getElem_cons_succ, List.setIfInBounds_toArray, List.set_cons_zero, List.set_cons_succ])
          refine wpAnyIn_ready (rs := [10]) (by kernel_rfl) (by simp) ?_
          refine AllReadyIn.cons (o := ({ dst := some 29, op := .call { callee := .value (.func 23), args := #[.tmp 24, .tmp 28], argTypes := #[25, 25] }, type := 4, pos := "law.go:43", after := #[⟨5, .data⟩, ⟨9, .data⟩, ⟨4, .chain⟩, ⟨4, .guard⟩], guard := some (4, false) } : Go.Oper)) rfl (fun K hK => ?_) AllReadyIn.nil
          go_simp
          refine ⟨trivial, fun h => (by simp [Fence.wide] at h), ?_⟩; refine (CallsIn.inRound _ (callsIn_wide.2 (rsame_self _ _ y _ (HE2.out.ext (by with_reducible (repeat (first | exact Ext.rfl_ _ | assumption | refine Ext.drew ?_ | refine Ext.drewN ?_ _ | refine Ext.alloc ?_ _ | refine Ext.trans ?_ (by assumption))))) ((HY.out.ext H2.out.ext).ext (by with_reducible (repeat (first | exact Ext.rfl_ _ | assumption | refine Ext.drew ?_ | refine Ext.drewN ?_ _ | refine Ext.alloc ?_ _ | refine Ext.trans ?_ (by assumption)))))))).mono ?_; rintro e w3 ⟨rfl, hw3⟩
          refine hK _ _ ?_
          clear hK K
          (try simp only [Act.put, List.getElem_toArray, List.getElem_cons_zero, List.getElem_cons_succ, List.setIfInBounds_toArray, List.set_cons_zero, List.set_cons_succ])
          refine wpAnyIn_ready (rs := [11]) (by kernel_rfl) (by simp) ?_
          refine AllReadyIn.cons (o := ({ dst := some 30, op := .unOp .not 4 (.tmp 29), type := 4, pos := "law.go:43", after := #[⟨10, .data⟩, ⟨4, .guard⟩], guard := some (4, false) } : Go.Oper)) rfl (fun K hK => ?_) AllReadyIn.nil
          go_simp
          refine hK _ _ ?_
          clear hK K
          (try simp only [Act.put, List.getElem_toArray, List.getElem_cons_zero, List.getElem_cons_succ, List.setIfInBounds_toArray, List.set_cons_zero, List.set_cons_succ])
          refine wpAnyIn_ready (rs := [12]) (by kernel_rfl) (by simp) ?_
          refine AllReadyIn.cons (o := ({ dst := some 31, op := .pick (.tmp 23) (.const (.bool true)) (.tmp 30), type := 4, pos := "law.go:43", after := #[⟨4, .data⟩, ⟨11, .data⟩], guard := none } : Go.Oper)) rfl (fun K hK => ?_) AllReadyIn.nil
          go_simp
          refine hK _ _ ?_
          clear hK K
          (try simp only [Act.put, List.getElem_toArray, List.getElem_cons_zero, List.getElem_cons_succ, List.setIfInBounds_toArray, List.set_cons_zero, List.set_cons_succ])
          refine wpAnyIn_done (by kernel_rfl) ?_ _
        case' more3 =>
          refine AllReadyIn.cons (o := ({ dst := some 26, op := .load 3 (.tmp 9), type := 3, pos := "law.go:43", after := #[⟨4, .guard⟩], guard := some (4, false) } : Go.Oper)) rfl (fun K hK => ?_) AllReadyIn.nil
          go_simp
          refine hK _ _ ?_
          clear hK K
          (try simp only [Act.put, List.getElem_toArray, List.getElem_cons_zero, List.getElem_cons_succ, List.setIfInBounds_toArray, List.set_cons_zero, List.set_cons_succ])
          refine wpAnyIn_ready (rs := [6]) (by kernel_rfl) (by simp) ?_
          refine AllReadyIn.cons (o := ({ dst := some 25, op := .load 42 (.tmp 6), type := 42, pos := "law.go:43", after := #[⟨4, .guard⟩], guard := some (4, false) } : Go.Oper)) rfl (fun K hK => ?_) AllReadyIn.nil
          go_simp
          refine hK _ _ ?_
          clear hK K
          (try simp only [Act.put, List.getElem_toArray, List.getElem_cons_zero, List.getElem_cons_succ, List.setIfInBounds_toArray, List.set_cons_zero, List.set_cons_succ])
          refine wpAnyIn_ready (rs := [8]) (by kernel_rfl) (by simp) ?_
          refine AllReadyIn.cons (o := ({ dst := some 27, op := .indexAddr 42 (.tmp 25) (.tmp 26), type := 0, pos := "law.go:43", after := #[⟨6, .data⟩, ⟨7, .data⟩, ⟨4, .guard⟩], guard := some (4, false) } : Go.Oper)) rfl (fun K hK => ?_) AllReadyIn.nil
          go_simp
          refine hK _ _ ?_
          clear hK K
          (try simp only [Act.put, List.getElem_toArray, List.getElem_cons_zero, List.getElem_cons_succ, List.setIfInBounds_toArray, List.set_cons_zero, List.set_cons_succ])
          refine wpAnyIn_ready (rs := [9]) (by kernel_rfl) (by simp) ?_
          refine AllReadyIn.cons (o := ({ dst := some 28, op := .load 25 (.tmp 27), type := 25, pos := "law.go:43", after := #[⟨8, .data⟩, ⟨4, .guard⟩], guard := some (4, false) } : Go.Oper)) rfl (fun K hK => ?_) AllReadyIn.nil
          go_simp
          refine hK _ _ ?_
          clear hK K
          (try simp only [Act.put, List.getElem_toArray, List.getElem_cons_zero, List.getElem_cons_succ, List.setIfInBounds_toArray, List.set_cons_zero, List.set_cons_succ])
          refine wpAnyIn_ready (rs := [10]) (by kernel_rfl) (by simp) ?_
          refine AllReadyIn.cons (o := ({ dst := some 29, op := .call { callee := .value (.func 23), args := #[.tmp 24, .tmp 28], argTypes := #[25, 25] }, type := 4, pos := "law.go:43", after := #[⟨5, .data⟩, ⟨9, .data⟩, ⟨4, .chain⟩, ⟨4, .guard⟩], guard := some (4, false) } : Go.Oper)) rfl (fun K hK => ?_) AllReadyIn.nil
          go_simp
          refine ⟨trivial, fun h => (by simp [Fence.wide] at h), ?_⟩; refine (CallsIn.inRound _ (callsIn_wide.2 (rsame_self _ _ y _ (HE2.out.ext (by with_reducible (repeat (first | exact Ext.rfl_ _ | assumption | refine Ext.drew ?_ | refine Ext.drewN ?_ _ | refine Ext.alloc ?_ _ | refine Ext.trans ?_ (by assumption))))) ((HY.out.ext H2.out.ext).ext (by with_reducible (repeat (first | exact Ext.rfl_ _ | assumption | refine Ext.drew ?_ | refine Ext.drewN ?_ _ | refine Ext.alloc ?_ _ | refine Ext.trans ?_ (by assumption)))))))).mono ?_; rintro e w3 ⟨rfl, hw3⟩
          refine hK _ _ ?_
          clear hK K
          (try simp only [Act.put, List.getElem_toArray, List.getElem_cons_zero, List.getElem_cons_succ, List.setIfInBounds_toArray, List.set_cons_zero, List.set_cons_succ])
          refine wpAnyIn_ready (rs := [11]) (by kernel_rfl) (by simp) ?_
          refine AllReadyIn.cons (o := ({ dst := some 30, op := .unOp .not 4 (.tmp 29), type := 4, pos := "law.go:43", after := #[⟨10, .data⟩, ⟨4, .guard⟩], guard := some (4, false) } : Go.Oper)) rfl (fun K hK => ?_) AllReadyIn.nil
          go_simp
          refine hK _ _ ?_
          clear hK K
          (try simp only [Act.put, List.getElem_toArray, List.getElem_cons_zero, List.getElem_cons_succ, List.setIfInBounds_toArray, List.set_cons_zero, List.set_cons_succ])
          refine wpAnyIn_ready (rs := [12]) (by kernel_rfl) (by simp) ?_
          refine AllReadyIn.cons (o := ({ dst := some 31, op := .pick (.tmp 23) (.const (.bool true)) (.tmp 30), type := 4, pos := "law.go:43", after := #[⟨4, .data⟩, ⟨11, .data⟩], guard := none } : Go.Oper)) rfl (fun K hK => ?_) AllReadyIn.nil
          go_simp
          refine hK _ _ ?_
          clear hK K
          (try simp only [Act.put, List.getElem_toArray, List.getElem_cons_zero, List.getElem_cons_succ, List.setIfInBounds_toArray, List.set_cons_zero, List.set_cons_succ])
          refine wpAnyIn_done (by kernel_rfl) ?_ _
      case' more2 =>
        refine AllReadyIn.cons (o := ({ dst := some 25, op := .load 42 (.tmp 6), type := 42, pos := "law.go:43", after := #[⟨4, .guard⟩], guard := some (4, false) } : Go.Oper)) rfl (fun K hK => ?one4) ?more4
        case' one4 =>
          go_simp
          refine hK _ _ ?_
          clear hK K
          (try simp only [Act.put, List.getElem_toArray, List.getElem_cons_zero, List.getElem_cons_succ, List.setIfInBounds_toArray, List.set_cons_zero, List.set_cons_succ])
          refine wpAnyIn_ready (rs := [5, 7]) (by kernel_rfl) (by simp) ?_
          refine AllReadyIn.cons (o := ({ dst := some 24, op := .load 25 (.tmp 11), type := 25, pos := "law.go:43", after := #[⟨4, .guard⟩], guard := some (4, false) } : Go.Oper)) rfl (fun K hK => ?one5) ?more5
          case' one5 =>
            go_simp
            refine hK _ _ ?_
            clear hK K
            (try simp only [Act.put, List.getElem_toArray, List.getElem_cons_zero, List.getElem_cons_succ, List.setIfInBounds_toArray, List.set_cons_zero, List.set_cons_succ])
            refine wpAnyIn_ready (rs := [7]) (by kernel_rfl) (by simp) ?_
            refine AllReadyIn.cons (o := ({ dst := some 26, op := .load 3 (.tmp 9), type := 3, pos := "law.go:43", after := #[⟨4, .guard⟩], guard := some (4, false) } : Go.Oper)) rfl (fun K hK => ?_) AllReadyIn.nil
            go_simp
            refine hK _ _ ?_
            clear hK K
            (try simp only [Act.put, List.getElem_toArray, List.getElem_cons_zero, List.getElem_cons_succ, List.setIfInBounds_toArray, List.set_cons_zero, List.set_cons_succ])
            refine wpAnyIn_ready (rs := [8]) (by kernel_rfl) (by simp) ?_
            refine AllReadyIn.cons (o := ({ dst := some 27, op := .indexAddr 42 (.tmp 25) (.tmp 26), type := 0, pos := "law.go:43", after := #[⟨6, .data⟩, ⟨7, .data⟩, ⟨4, .guard⟩], guard := some (4, false) } : Go.Oper)) rfl (fun K hK => ?_) AllReadyIn.nil
            go_simp
            refine hK _ _ ?_
            clear hK K
            (try simp only [Act.put, List.getElem_toArray, List.getElem_cons_zero, List.getElem_cons_succ, List.setIfInBounds_toArray, List.set_cons_zero, List.set_cons_succ])
            refine wpAnyIn_ready (rs := [9]) (by kernel_rfl) (by simp) ?_
            refine AllReadyIn.cons (o := ({ dst := some 28, op := .load 25 (.tmp 27), type := 25, pos := "law.go:43", after := #[⟨8, .data⟩, ⟨4, .guard⟩], guard := some (4, false) } : Go.Oper)) rfl (fun K hK => ?_) AllReadyIn.nil
            go_simp
            refine hK _ _ ?_
            clear hK K
            (try simp only [Act.put, List.getElem_toArray, List.getElem_cons_zero, List.getElem_cons_succ, List.setIfInBounds_toArray, List.set_cons_zero, List.set_cons_succ])
            refine wpAnyIn_ready (rs := [10]) (by kernel_rfl) (by simp) ?_
            refine AllReadyIn.cons (o := ({ dst := some 29, op := .call { callee := .value (.func 23), args := #[.tmp 24, .tmp 28], argTypes := #[25, 25] }, type := 4, pos := "law.go:43", after := #[⟨5, .data⟩, ⟨9, .data⟩, ⟨4, .chain⟩, ⟨4, .guard⟩], guard := some (4, false) } : Go.Oper)) rfl (fun K hK => ?_) AllReadyIn.nil
            go_simp
            refine ⟨trivial, fun h => (by simp [Fence.wide] at h), ?_⟩; refine (CallsIn.inRound _ (callsIn_wide.2 (rsame_self _ _ y _ (HE2.out.ext (by with_reducible (repeat (first | exact Ext.rfl_ _ | assumption | refine Ext.drew ?_ | refine Ext.drewN ?_ _ | refine Ext.alloc ?_ _ | refine Ext.trans ?_ (by assumption))))) ((HY.out.ext H2.out.ext).ext (by with_reducible (repeat (first | exact Ext.rfl_ _ | assumption | refine Ext.drew ?_ | refine Ext.drewN ?_ _ | refine Ext.alloc ?_ _ | refine Ext.trans ?_ (by assumption)))))))).mono ?_; rintro e w3 ⟨rfl, hw3⟩
            refine hK _ _ ?_
            clear hK K
            (try simp only [Act.put, List.getElem_toArray, List.getElem_cons_zero, List.getElem_cons_succ, List.setIfInBounds_toArray, List.set_cons_zero, List.set_cons_succ])
            refine wpAnyIn_ready (rs := [11]) (by kernel_rfl) (by simp) ?_
            refine AllReadyIn.cons (o := ({ dst := some 30, op := .unOp .not 4 (.tmp 29), type := 4, pos := "law.go:43", after := #[⟨10, .data⟩, ⟨4, .guard⟩], guard := some (4, false) } : Go.Oper)) rfl (fun K hK => ?_) AllReadyIn.nil
            go_simp
            refine hK _ _ ?_
            clear hK K
            (try simp only [Act.put, List.getElem_toArray, List.getElem_cons_zero, List.getElem_cons_succ, List.setIfInBounds_toArray, List.set_cons_zero, List.set_cons_succ])
            refine wpAnyIn_ready (rs := [12]) (by kernel_rfl) (by simp) ?_
            refine AllReadyIn.cons (o := ({ dst := some 31, op := .pick (.tmp 23) (.const (.bool true)) (.tmp 30), type := 4, pos := "law.go:43", after := #[⟨4, .data⟩, ⟨11, .data⟩], guard := none } : Go.Oper)) rfl (fun K hK => ?_) AllReadyIn.nil
            go_simp
            refine hK _ _ ?_
            clear hK K
            (try simp only [Act.put, List.getElem_toArray, List.getElem_cons_zero, List.getElem_cons_succ, List.setIfInBounds_toArray, List.set_cons_zero, List.set_cons_succ])
            refine wpAnyIn_done (by kernel_rfl) ?_ _
          case' more5 =>
            refine AllReadyIn.cons (o := ({ dst := some 26, op := .load 3 (.tmp 9), type := 3, pos := "law.go:43", after := #[⟨4, .guard⟩], guard := some (4, false) } : Go.Oper)) rfl (fun K hK => ?_) AllReadyIn.nil
            go_simp
            refine hK _ _ ?_
            clear hK K
            (try simp only [Act.put, List.getElem_toArray, List.getElem_cons_zero, List.getElem_cons_succ, List.setIfInBounds_toArray, List.set_cons_zero, List.set_cons_succ])
            refine wpAnyIn_ready (rs := [5, 8]) (by kernel_rfl) (by simp) ?_
            refine AllReadyIn.cons (o := ({ dst := some 24, op := .load 25 (.tmp 11), type := 25, pos := "law.go:43", after := #[⟨4, .guard⟩], guard := some (4, false) } : Go.Oper)) rfl (fun K hK => ?one6) ?more6
            case' one6 =>
              go_simp
              refine hK _ _ ?_
              clear hK K
              (try simp only [Act.put, List.getElem_toArray, List.getElem_cons_zero, List.getElem_cons_succ, List.setIfInBounds_toArray, List.set_cons_zero, List.set_cons_succ])
              refine wpAnyIn_ready (rs := [8]) (by kernel_rfl) (by simp) ?_
              refine AllReadyIn.cons (o := ({ dst := some 27, op := .indexAddr 42 (.tmp 25) (.tmp 26), type := 0, pos := "law.go:43", after := #[⟨6, .data⟩, ⟨7, .data⟩, ⟨4, .guard⟩], guard := some (4, false) } : Go.Oper)) rfl (fun K hK => ?_) AllReadyIn.nil
              go_simp
              refine hK _ _ ?_
              clear hK K
              (try simp only [Act.put, List.getElem_toArray, List.getElem_cons_zero, List.getElem_cons_succ, List.setIfInBounds_toArray, List.set_cons_zero, List.set_cons_succ])
              refine wpAnyIn_ready (rs := [9]) (by kernel_rfl) (by simp) ?_
              refine AllReadyIn.cons (o := ({ dst := some 28, op := .load 25 (.tmp 27), type := 25, pos := "law.go:43", after := #[⟨8, .data⟩, ⟨4, .guard⟩], guard := some (4, false) } : Go.Oper)) rfl (fun K hK => ?_) AllReadyIn.nil
              go_simp
              refine hK _ _ ?_
              clear hK K
              (try simp only [Act.put, List.getElem_toArray, List.getElem_cons_zero, List.getElem_cons_succ, List.setIfInBounds_toArray, List.set_cons_zero, List.set_cons_succ])
              refine wpAnyIn_ready (rs := [10]) (by kernel_rfl) (by simp) ?_
              refine AllReadyIn.cons (o := ({ dst := some 29, op := .call { callee := .value (.func 23), args := #[.tmp 24, .tmp 28], argTypes := #[25, 25] }, type := 4, pos := "law.go:43", after := #[⟨5, .data⟩, ⟨9, .data⟩, ⟨4, .chain⟩, ⟨4, .guard⟩], guard := some (4, false) } : Go.Oper)) rfl (fun K hK => ?_) AllReadyIn.nil
              go_simp
              refine ⟨trivial, fun h => (by simp [Fence.wide] at h), ?_⟩; refine (CallsIn.inRound _ (callsIn_wide.2 (rsame_self _ _ y _ (HE2.out.ext (by with_reducible (repeat (first | exact Ext.rfl_ _ | assumption | refine Ext.drew ?_ | refine Ext.drewN ?_ _ | refine Ext.alloc ?_ _ | refine Ext.trans ?_ (by assumption))))) ((HY.out.ext H2.out.ext).ext (by with_reducible (repeat (first | exact Ext.rfl_ _ | assumption | refine Ext.drew ?_ | refine Ext.drewN ?_ _ | refine Ext.alloc ?_ _ | refine Ext.trans ?_ (by assumption)))))))).mono ?_; rintro e w3 ⟨rfl, hw3⟩
              refine hK _ _ ?_
              clear hK K
              (try simp only [Act.put, List.getElem_toArray, List.getElem_cons_zero, List.getElem_cons_succ, List.setIfInBounds_toArray, List.set_cons_zero, List.set_cons_succ])
              refine wpAnyIn_ready (rs := [11]) (by kernel_rfl) (by simp) ?_
              refine AllReadyIn.cons (o := ({ dst := some 30, op := .unOp .not 4 (.tmp 29), type := 4, pos := "law.go:43", after := #[⟨10, .data⟩, ⟨4, .guard⟩], guard := some (4, false) } : Go.Oper)) rfl (fun K hK => ?_) AllReadyIn.nil
              go_simp
              refine hK _ _ ?_
              clear hK K
              (try simp only [Act.put, List.getElem_toArray, List.getElem_cons_zero, List.getElem_cons_succ, List.setIfInBounds_toArray, List.set_cons_zero, List.set_cons_succ])
              refine wpAnyIn_ready (rs := [12]) (by kernel_rfl) (by simp) ?_
              refine AllReadyIn.cons (o := ({ dst := some 31, op := .pick (.tmp 23) (.const (.bool true)) (.tmp 30), type := 4, pos := "law.go:43", after := #[⟨4, .data⟩, ⟨11, .data⟩], guard := none } : Go.Oper)) rfl (fun K hK => ?_) AllReadyIn.nil
              go_simp
              refine hK _ _ ?_
              clear hK K
              (try simp only [Act.put, List.getElem_toArray, List.getElem_cons_zero, List.getElem_cons_succ, List.setIfInBounds_toArray, List.set_cons_zero, List.set_cons_succ])
              refine wpAnyIn_done (by kernel_rfl) ?_ _
            case' more6 =>
              refine AllReadyIn.cons (o := ({ dst := some 27, op := .indexAddr 42 (.tmp 25) (.tmp 26), type := 0, pos := "law.go:43", after := #[⟨6, .data⟩, ⟨7, .data⟩, ⟨4, .guard⟩], guard := some (4, false) } : Go.Oper)) rfl (fun K hK => ?_) AllReadyIn.nil
              go_simp
              refine hK _ _ ?_
              clear hK K
              (try simp only [Act.put, List.getElem_toArray, List.getElem_cons_zero, List.getElem_cons_succ, List.setIfInBounds_toArray, List.set_cons_zero, List.set_cons_succ])
              refine wpAnyIn_ready (rs := [5, 9]) (by kernel_rfl) (by simp) ?_
              refine AllReadyIn.cons (o := ({ dst := some 24, op := .load 25 (.tmp 11), type := 25, pos := "law.go:43", after := #[⟨4, .guard⟩], guard := some (4, false) } : Go.Oper)) rfl (fun K hK => ?one7) ?more7
              case' one7 =>
                go_simp
                refine hK _ _ ?_
                clear hK K
                (try simp only [Act.put, List.getElem_toArray, List.getElem_cons_zero, List.getElem_cons_succ, List.setIfInBounds_toArray, List.set_cons_zero, List.set_cons_succ])
                refine wpAnyIn_ready (rs := [9]) (by kernel_rfl) (by simp) ?_
                refine AllReadyIn.cons (o := ({ dst := some 28, op := .load 25 (.tmp 27), type := 25, pos := "law.go:43", after := #[⟨8, .data⟩, ⟨4, .guard⟩], guard := some (4, false) } : Go.Oper)) rfl (fun K hK => ?_) AllReadyIn.nil
                go_simp
                refine hK _ _ ?_
                clear hK K
                (try simp only [Act.put, List.getElem_toArray, List.getElem_cons_zero, List.getElem_cons_succ, List.setIfInBounds_toArray, List.set_cons_zero, List.set_cons_succ])
                refine wpAnyIn_ready (rs := [10]) (by kernel_rfl) (by simp) ?_
                refine AllReadyIn.cons (o := ({ dst := some 29, op := .call { callee := .value (.func 23), args := #[.tmp 24, .tmp 28], argTypes := #[25, 25] }, type := 4, pos := "law.go:43", after := #[⟨5, .data⟩, ⟨9, .data⟩, ⟨4, .chain⟩, ⟨4, .guard⟩], guard := some (4, false) } : Go.Oper)) rfl (fun K hK => ?_) AllReadyIn.nil
                go_simp
                refine ⟨trivial, fun h => (by simp [Fence.wide] at h), ?_⟩; refine (CallsIn.inRound _ (callsIn_wide.2 (rsame_self _ _ y _ (HE2.out.ext (by with_reducible (repeat (first | exact Ext.rfl_ _ | assumption | refine Ext.drew ?_ | refine Ext.drewN ?_ _ | refine Ext.alloc ?_ _ | refine Ext.trans ?_ (by assumption))))) ((HY.out.ext H2.out.ext).ext (by with_reducible (repeat (first | exact Ext.rfl_ _ | assumption | refine Ext.drew ?_ | refine Ext.drewN ?_ _ | refine Ext.alloc ?_ _ | refine Ext.trans ?_ (by assumption)))))))).mono ?_; rintro e w3 ⟨rfl, hw3⟩
                refine hK _ _ ?_
                clear hK K
                (try simp only [Act.put, List.getElem_toArray, List.getElem_cons_zero, List.getElem_cons_succ, List.setIfInBounds_toArray, List.set_cons_zero, List.set_cons_succ])
                refine wpAnyIn_ready (rs := [11]) (by kernel_rfl) (by simp) ?_
                refine AllReadyIn.cons (o := ({ dst := some 30, op := .unOp .not 4 (.tmp 29), type := 4, pos := "law.go:43", after := #[⟨10, .data⟩, ⟨4, .guard⟩], guard := some (4, false) } : Go.Oper)) rfl (fun K hK => ?_) AllReadyIn.nil
                go_simp
                refine hK _ _ ?_
                clear hK K
                (try simp only [Act.put, List.getElem_toArray, List.getElem_cons_zero, List.getElem_cons_succ, List.setIfInBounds_toArray, List.set_cons_zero, List.set_cons_succ])
                refine wpAnyIn_ready (rs := [12]) (by kernel_rfl) (by simp) ?_
                refine AllReadyIn.cons (o := ({ dst := some 31, op := .pick (.tmp 23) (.const (.bool true)) (.tmp 30), type := 4, pos := "law.go:43", after := #[⟨4, .data⟩, ⟨11, .data⟩], guard := none } : Go.Oper)) rfl (fun K hK => ?_) AllReadyIn.nil
                go_simp
                refine hK _ _ ?_
                clear hK K
                (try simp only [Act.put, List.getElem_toArray, List.getElem_cons_zero, List.getElem_cons_succ, List.setIfInBounds_toArray, List.set_cons_zero, List.set_cons_succ])
                refine wpAnyIn_done (by kernel_rfl) ?_ _
              case' more7 =>
                refine AllReadyIn.cons (o := ({ dst := some 28, op := .load 25 (.tmp 27), type := 25, pos := "law.go:43", after := #[⟨8, .data⟩, ⟨4, .guard⟩], guard := some (4, false) } : Go.Oper)) rfl (fun K hK => ?_) AllReadyIn.nil
                go_simp
                refine hK _ _ ?_
                clear hK K
                (try simp only [Act.put, List.getElem_toArray, List.getElem_cons_zero, List.getElem_cons_succ, List.setIfInBounds_toArray, List.set_cons_zero, List.set_cons_succ])
                refine wpAnyIn_ready (rs := [5]) (by kernel_rfl) (by simp) ?_
                refine AllReadyIn.cons (o := ({ dst := some 24, op := .load 25 (.tmp 11), type := 25, pos := "law.go:43", after := #[⟨4, .guard⟩], guard := some (4, false) } : Go.Oper)) rfl (fun K hK => ?_) AllReadyIn.nil
                go_simp
                refine hK _ _ ?_
                clear hK K
                (try simp only [Act.put, List.getElem_toArray, List.getElem_cons_zero, List.getElem_cons_succ, List.setIfInBounds_toArray, List.set_cons_zero, List.set_cons_succ])
                refine wpAnyIn_ready (rs := [10]) (by kernel_rfl) (by simp) ?_
                refine AllReadyIn.cons (o := ({ dst := some 29, op := .call { callee := .value (.func 23), args := #[.tmp 24, .tmp 28], argTypes := #[25, 25] }, type := 4, pos := "law.go:43", after := #[⟨5, .data⟩, ⟨9, .data⟩, ⟨4, .chain⟩, ⟨4, .guard⟩], guard := some (4, false) } : Go.Oper)) rfl (fun K hK => ?_) AllReadyIn.nil
                go_simp
                refine ⟨trivial, fun h => (by simp [Fence.wide] at h), ?_⟩; refine (CallsIn.inRound _ (callsIn_wide.2 (rsame_self _ _ y _ (HE2.out.ext (by with_reducible (repeat (first | exact Ext.rfl_ _ | assumption | refine Ext.drew ?_ | refine Ext.drewN ?_ _ | refine Ext.alloc ?_ _ | refine Ext.trans ?_ (by assumption))))) ((HY.out.ext H2.out.ext).ext (by with_reducible (repeat (first | exact Ext.rfl_ _ | assumption | refine Ext.drew ?_ | refine Ext.drewN ?_ _ | refine Ext.alloc ?_ _ | refine Ext.trans ?_ (by assumption)))))))).mono ?_; rintro e w3 ⟨rfl, hw3⟩
                refine hK _ _ ?_
                clear hK K
                (try simp only [Act.put, List.getElem_toArray, List.getElem_cons_zero, List.getElem_cons_succ, List.setIfInBounds_toArray, List.set_cons_zero, List.set_cons_succ])
                refine wpAnyIn_ready (rs := [11]) (by kernel_rfl) (by simp) ?_
                refine AllReadyIn.cons (o := ({ dst := some 30, op := .unOp .not 4 (.tmp 29), type := 4, pos := "law.go:43", after := #[⟨10, .data⟩, ⟨4, .guard⟩], guard := some (4, false) } : Go.Oper)) rfl (fun K hK => ?_) AllReadyIn.nil
                go_simp
                refine hK _ _ ?_
                clear hK K
                (try simp only [Act.put, List.getElem_toArray, List.getElem_cons_zero, List.getElem_cons_succ, List.setIfInBounds_toArray, List.set_cons_zero, List.set_cons_succ])
                refine wpAnyIn_ready (rs := [12]) (by kernel_rfl) (by simp) ?_
                refine AllReadyIn.cons (o := ({ dst := some 31, op := .pick (.tmp 23) (.const (.bool true)) (.tmp 30), type := 4, pos := "law.go:43", after := #[⟨4, .data⟩, ⟨11, .data⟩], guard := none } : Go.Oper)) rfl (fun K hK => ?_) AllReadyIn.nil
                go_simp
                refine hK _ _ ?_
                clear hK K
                (try simp only [Act.put, List.getElem_toArray, List.getElem_cons_zero, List.getElem_cons_succ, List.setIfInBounds_toArray, List.set_cons_zero, List.set_cons_succ])
                refine wpAnyIn_done (by kernel_rfl) ?_ _
        case' more4 =>
          refine AllReadyIn.cons (o := ({ dst := some 26, op := .load 3 (.tmp 9), type := 3, pos := "law.go:43", after := #[⟨4, .guard⟩], guard := some (4, false) } : Go.Oper)) rfl (fun K hK => ?_) AllReadyIn.nil
          go_simp
          refine hK _ _ ?_
          clear hK K
          (try simp only [Act.put, List.getElem_toArray, List.getElem_cons_zero, List.getElem_cons_succ, List.setIfInBounds_toArray, List.set_cons_zero, List.set_cons_succ])
          refine wpAnyIn_ready (rs := [5, 6]) (by kernel_rfl) (by simp) ?_
          refine AllReadyIn.cons (o := ({ dst := some 24, op := .load 25 (.tmp 11), type := 25, pos := "law.go:43", after := #[⟨4, .guard⟩], guard := some (4, false) } : Go.Oper)) rfl (fun K hK => ?one8) ?more8
          case' one8 =>
            go_simp
            refine hK _ _ ?_
            clear hK K
            (try simp only [Act.put, List.getElem_toArray, List.getElem_cons_zero, List.getElem_cons_succ, List.setIfInBounds_toArray, List.set_cons_zero, List.set_cons_succ])
            refine wpAnyIn_ready (rs := [6]) (by kernel_rfl) (by simp) ?_
            refine AllReadyIn.cons (o := ({ dst := some 25, op := .load 42 (.tmp 6), type := 42, pos := "law.go:43", after := #[⟨4, .guard⟩], guard := some (4, false) } : Go.Oper)) rfl (fun K hK => ?_) AllReadyIn.nil
            go_simp
            refine hK _ _ ?_
            clear hK K
            (try simp only [Act.put, List.getElem_toArray, List.getElem_cons_zero, List.getElem_cons_succ, List.setIfInBounds_toArray, List.set_cons_zero, List.set_cons_succ])
            refine wpAnyIn_ready (rs := [8]) (by kernel_rfl) (by simp) ?_
            refine AllReadyIn.cons (o := ({ dst := some 27, op := .indexAddr 42 (.tmp 25) (.tmp 26), type := 0, pos := "law.go:43", after := #[⟨6, .data⟩, ⟨7, .data⟩, ⟨4, .guard⟩], guard := some (4, false) } : Go.Oper)) rfl (fun K hK => ?_) AllReadyIn.nil
            go_simp
            refine hK _ _ ?_
            clear hK K
            (try simp only [Act.put, List.getElem_toArray, List.getElem_cons_zero, List.getElem_cons_succ, List.setIfInBounds_toArray, List.set_cons_zero, List.set_cons_succ])
            refine wpAnyIn_ready (rs := [9]) (by kernel_rfl) (by simp) ?_
            refine AllReadyIn.cons (o := ({ dst := some 28, op := .load 25 (.tmp 27), type := 25, pos := "law.go:43", after := #[⟨8, .data⟩, ⟨4, .guard⟩], guard := some (4, false) } : Go.Oper)) rfl (fun K hK => ?_) AllReadyIn.nil
            go_simp
            refine hK _ _ ?_
            clear hK K
            (try simp only [Act.put, List.getElem_toArray, List.getElem_cons_zero, List.getElem_cons_succ, List.setIfInBounds_toArray, List.set_cons_zero, List.set_cons_succ])
            refine wpAnyIn_ready (rs := [10]) (by kernel_rfl) (by simp) ?_
            refine AllReadyIn.cons (o := ({ dst := some 29, op := .call { callee := .value (.func 23), args := #[.tmp 24, .tmp 28], argTypes := #[25, 25] }, type := 4, pos := "law.go:43", after := #[⟨5, .data⟩, ⟨9, .data⟩, ⟨4, .chain⟩, ⟨4, .guard⟩], guard := some (4, false) } : Go.Oper)) rfl (fun K hK => ?_) AllReadyIn.nil
            go_simp
            refine ⟨trivial, fun h => (by simp [Fence.wide] at h), ?_⟩; refine (CallsIn.inRound _ (callsIn_wide.2 (rsame_self _ _ y _ (HE2.out.ext (by with_reducible (repeat (first | exact Ext.rfl_ _ | assumption | refine Ext.drew ?_ | refine Ext.drewN ?_ _ | refine Ext.alloc ?_ _ | refine Ext.trans ?_ (by assumption))))) ((HY.out.ext H2.out.ext).ext (by with_reducible (repeat (first | exact Ext.rfl_ _ | assumption | refine Ext.drew ?_ | refine Ext.drewN ?_ _ | refine Ext.alloc ?_ _ | refine Ext.trans ?_ (by assumption)))))))).mono ?_; rintro e w3 ⟨rfl, hw3⟩
            refine hK _ _ ?_
            clear hK K
            (try simp only [Act.put, List.getElem_toArray, List.getElem_cons_zero, List.getElem_cons_succ, List.setIfInBounds_toArray, List.set_cons_zero, List.set_cons_succ])
            refine wpAnyIn_ready (rs := [11]) (by kernel_rfl) (by simp) ?_
            refine AllReadyIn.cons (o := ({ dst := some 30, op := .unOp .not 4 (.tmp 29), type := 4, pos := "law.go:43", after := #[⟨10, .data⟩, ⟨4, .guard⟩], guard := some (4, false) } : Go.Oper)) rfl (fun K hK => ?_) AllReadyIn.nil
            go_simp
            refine hK _ _ ?_
            clear hK K
            (try simp only [Act.put, List.getElem_toArray, List.getElem_cons_zero, List.getElem_cons_succ, List.setIfInBounds_toArray, List.set_cons_zero, List.set_cons_succ])
            refine wpAnyIn_ready (rs := [12]) (by kernel_rfl) (by simp) ?_
            refine AllReadyIn.cons (o := ({ dst := some 31, op := .pick (.tmp 23) (.const (.bool true)) (.tmp 30), type := 4, pos := "law.go:43", after := #[⟨4, .data⟩, ⟨11, .data⟩], guard := none } : Go.Oper)) rfl (fun K hK => ?_) AllReadyIn.nil
            go_simp
            refine hK _ _ ?_
            clear hK K
            (try simp only [Act.put, List.getElem_toArray, List.getElem_cons_zero, List.getElem_cons_succ, List.setIfInBounds_toArray, List.set_cons_zero, List.set_cons_succ])
            refine wpAnyIn_done (by kernel_rfl) ?_ _
          case' more8 =>
            refine AllReadyIn.cons (o := ({ dst := some 25, op := .load 42 (.tmp 6), type := 42, pos := "law.go:43", after := #[⟨4, .guard⟩], guard := some (4, false) } : Go.Oper)) rfl (fun K hK => ?_) AllReadyIn.nil
            go_simp
            refine hK _ _ ?_
            clear hK K
            (try simp only [Act.put, List.getElem_toArray, List.getElem_cons_zero, List.getElem_cons_succ, List.setIfInBounds_toArray, List.set_cons_zero, List.set_cons_succ])
            refine wpAnyIn_ready (rs := [5, 8]) (by kernel_rfl) (by simp) ?_
            refine AllReadyIn.cons (o := ({ dst := some 24, op := .load 25 (.tmp 11), type := 25, pos := "law.go:43", after := #[⟨4, .guard⟩], guard := some (4, false) } : Go.Oper)) rfl (fun K hK => ?one9) ?more9
            case' one9 =>
              go_simp
              refine hK _ _ ?_
              clear hK K
              (try simp only [Act.put, List.getElem_toArray, List.getElem_cons_zero, List.getElem_cons_succ, List.setIfInBounds_toArray, List.set_cons_zero, List.set_cons_succ])
              refine wpAnyIn_ready (rs := [8]) (by kernel_rfl) (by simp) ?_
              refine AllReadyIn.cons (o := ({ dst := some 27, op := .indexAddr 42 (.tmp 25) (.tmp 26), type := 0, pos := "law.go:43", after := #[⟨6, .data⟩, ⟨7, .data⟩, ⟨4, .guard⟩], guard := some (4, false) } : Go.Oper)) rfl (fun K hK => ?_) AllReadyIn.nil
              go_simp
              refine hK _ _ ?_
              clear hK K
              (try simp only [Act.put, List.getElem_toArray, List.getElem_cons_zero, List.getElem_cons_succ, List.setIfInBounds_toArray, List.set_cons_zero, List.set_cons_succ])
              refine wpAnyIn_ready (rs := [9]) (by kernel_rfl) (by simp) ?_
              refine AllReadyIn.cons (o := ({ dst := some 28, op := .load 25 (.tmp 27), type := 25, pos := "law.go:43", after := #[⟨8, .data⟩, ⟨4, .guard⟩], guard := some (4, false) } : Go.Oper)) rfl (fun K hK => ?_) AllReadyIn.nil
              go_simp
              refine hK _ _ ?_
              clear hK K
              (try simp only [Act.put, List.getElem_toArray, List.getElem_cons_zero, List.getElem_cons_succ, List.setIfInBounds_toArray, List.set_cons_zero, List.set_cons_succ])
              refine wpAnyIn_ready (rs := [10]) (by kernel_rfl) (by simp) ?_
              refine AllReadyIn.cons (o := ({ dst := some 29, op := .call { callee := .value (.func 23), args := #[.tmp 24, .tmp 28], argTypes := #[25, 25] }, type := 4, pos := "law.go:43", after := #[⟨5, .data⟩, ⟨9, .data⟩, ⟨4, .chain⟩, ⟨4, .guard⟩], guard := some (4, false) } : Go.Oper)) rfl (fun K hK => ?_) AllReadyIn.nil
              go_simp
              refine ⟨trivial, fun h => (by simp [Fence.wide] at h), ?_⟩; refine (CallsIn.inRound _ (callsIn_wide.2 (rsame_self _ _ y _ (HE2.out.ext (by with_reducible (repeat (first | exact Ext.rfl_ _ | assumption | refine Ext.drew ?_ | refine Ext.drewN ?_ _ | refine Ext.alloc ?_ _ | refine Ext.trans ?_ (by assumption))))) ((HY.out.ext H2.out.ext).ext (by with_reducible (repeat (first | exact Ext.rfl_ _ | assumption | refine Ext.drew ?_ | refine Ext.drewN ?_ _ | refine Ext.alloc ?_ _ | refine Ext.trans ?_ (by assumption)))))))).mono ?_; rintro e w3 ⟨rfl, hw3⟩
              refine hK _ _ ?_
              clear hK K
              (try simp only [Act.put, List.getElem_toArray, List.getElem_cons_zero, List.getElem_cons_succ, List.setIfInBounds_toArray, List.set_cons_zero, List.set_cons_succ])
              refine wpAnyIn_ready (rs := [11]) (by kernel_rfl) (by simp) ?_
              refine AllReadyIn.cons (o := ({ dst := some 30, op := .unOp .not 4 (.tmp 29), type := 4, pos := "law.go:43", after := #[⟨10, .data⟩, ⟨4, .guard⟩], guard := some (4, false) } : Go.Oper)) rfl (fun K hK => ?_) AllReadyIn.nil
              go_simp
              refine hK _ _ ?_
              clear hK K
              (try simp only [Act.put, List.getElem_toArray, List.getElem_cons_zero, List.getElem_cons_succ, List.setIfInBounds_toArray, List.set_cons_zero, List.set_cons_succ])
              refine wpAnyIn_ready (rs := [12]) (by kernel_rfl) (by simp) ?_
              refine AllReadyIn.cons (o := ({ dst := some 31, op := .pick (.tmp 23) (.const (.bool true)) (.tmp 30), type := 4, pos := "law.go:43", after := #[⟨4, .data⟩, ⟨11, .data⟩], guard := none } : Go.Oper)) rfl (fun K hK => ?_) AllReadyIn.nil
              go_simp
              refine hK _ _ ?_
              clear hK K
              (try simp only [Act.put, List.getElem_toArray, List.getElem_cons_zero, List.getElem_cons_succ, List.setIfInBounds_toArray, List.set_cons_zero, List.set_cons_succ])
              refine wpAnyIn_done (by kernel_rfl) ?_ _
            case' more9 =>
              refine AllReadyIn.cons (o := ({ dst := some 27, op := .indexAddr 42 (.tmp 25) (.tmp 26), type := 0, pos := "law.go:43", after := #[⟨6, .data⟩, ⟨7, .data⟩, ⟨4, .guard⟩], guard := some (4, false) } : Go.Oper)) rfl (fun K hK => ?_) AllReadyIn.nil
              go_simp
              refine hK _ _ ?_
              clear hK K
              (try simp only [Act.put, List.getElem_toArray, List.getElem_cons_zero, List.getElem_cons_succ, List.setIfInBounds_toArray, List.set_cons_zero, List.set_cons_succ])
              refine wpAnyIn_ready (rs := [5, 9]) (by kernel_rfl) (by simp) ?_
              refine AllReadyIn.cons (o := ({ dst := some 24, op := .load 25 (.tmp 11), type := 25, pos := "law.go:43", after := #[⟨4, .guard⟩], guard := some (4, false) } : Go.Oper)) rfl (fun K hK => ?one10) ?more10
              case' one10 =>
                go_simp
                refine hK _ _ ?_
                clear hK K
                (try simp only [Act.put, List.getElem_toArray, List.getElem_cons_zero, List.getElem_cons_succ, List.setIfInBounds_toArray, List.set_cons_zero, List.set_cons_succ])
                refine wpAnyIn_ready (rs := [9]) (by kernel_rfl) (by simp) ?_
                refine AllReadyIn.cons (o := ({ dst := some 28, op := .load 25 (.tmp 27), type := 25, pos := "law.go:43", after := #[⟨8, .data⟩, ⟨4, .guard⟩], guard := some (4, false) } : Go.Oper)) rfl (fun K hK => ?_) AllReadyIn.nil
                go_simp
                refine hK _ _ ?_
                clear hK K
                (try simp only [Act.put, List.getElem_toArray, List.getElem_cons_zero, List.getElem_cons_succ, List.setIfInBounds_toArray, List.set_cons_zero, List.set_cons_succ])
                refine wpAnyIn_ready (rs := [10]) (by kernel_rfl) (by simp) ?_
                refine AllReadyIn.cons (o := ({ dst := some 29, op := .call { callee := .value (.func 23), args := #[.tmp 24, .tmp 28], argTypes := #[25, 25] }, type := 4, pos := "law.go:43", after := #[⟨5, .data⟩, ⟨9, .data⟩, ⟨4, .chain⟩, ⟨4, .guard⟩], guard := some (4, false) } : Go.Oper)) rfl (fun K hK => ?_) AllReadyIn.nil
                go_simp
                refine ⟨trivial, fun h => (by simp [Fence.wide] at h), ?_⟩; refine (CallsIn.inRound _ (callsIn_wide.2 (rsame_self _ _ y _ (HE2.out.ext (by with_reducible (repeat (first | exact Ext.rfl_ _ | assumption | refine Ext.drew ?_ | refine Ext.drewN ?_ _ | refine Ext.alloc ?_ _ | refine Ext.trans ?_ (by assumption))))) ((HY.out.ext H2.out.ext).ext (by with_reducible (repeat (first | exact Ext.rfl_ _ | assumption | refine Ext.drew ?_ | refine Ext.drewN ?_ _ | refine Ext.alloc ?_ _ | refine Ext.trans ?_ (by assumption)))))))).mono ?_; rintro e w3 ⟨rfl, hw3⟩
                refine hK _ _ ?_
                clear hK K
                (try simp only [Act.put, List.getElem_toArray, List.getElem_cons_zero, List.getElem_cons_succ, List.setIfInBounds_toArray, List.set_cons_zero, List.set_cons_succ])
                refine wpAnyIn_ready (rs := [11]) (by kernel_rfl) (by simp) ?_
                refine AllReadyIn.cons (o := ({ dst := some 30, op := .unOp .not 4 (.tmp 29), type := 4, pos := "law.go:43", after := #[⟨10, .data⟩, ⟨4, .guard⟩], guard := some (4, false) } : Go.Oper)) rfl (fun K hK => ?_) AllReadyIn.nil
                go_simp
                refine hK _ _ ?_
                clear hK K
                (try simp only [Act.put, List.getElem_toArray, List.getElem_cons_zero, List.getElem_cons_succ, List.setIfInBounds_toArray, List.set_cons_zero, List.set_cons_succ])
                refine wpAnyIn_ready (rs := [12]) (by kernel_rfl) (by simp) ?_
                refine AllReadyIn.cons (o := ({ dst := some 31, op := .pick (.tmp 23) (.const (.bool true)) (.tmp 30), type := 4, pos := "law.go:43", after := #[⟨4, .data⟩, ⟨11, .data⟩], guard := none } : Go.Oper)) rfl (fun K hK => ?_) AllReadyIn.nil
                go_simp
                refine hK _ _ ?_
                clear hK K
                (try simp only [Act.put, List.getElem_toArray, List.getElem_cons_zero, List.getElem_cons_succ, List.setIfInBounds_toArray, List.set_cons_zero, List.set_cons_succ])
                refine wpAnyIn_done (by kernel_rfl) ?_ _
              case' more10 =>
                refine AllReadyIn.cons (o := ({ dst := some 28, op := .load 25 (.tmp 27), type := 25, pos := "law.go:43", after := #[⟨8, .data⟩, ⟨4, .guard⟩], guard := some (4, false) } : Go.Oper)) rfl (fun K hK => ?_) AllReadyIn.nil
                go_simp
                refine hK _ _ ?_
                clear hK K
                (try simp only [Act.put, List.getElem_toArray, List.getElem_cons_zero, List.getElem_cons_succ, List.setIfInBounds_toArray, List.set_cons_zero, List.set_cons_succ])
                refine wpAnyIn_ready (rs := [5]) (by kernel_rfl) (by simp) ?_
                refine AllReadyIn.cons (o := ({ dst := some 24, op := .load 25 (.tmp 11), type := 25, pos := "law.go:43", after := #[⟨4, .guard⟩], guard := some (4, false) } : Go.Oper)) rfl (fun K hK => ?_) AllReadyIn.nil
                go_simp
                refine hK _ _ ?_
                clear hK K
                (try simp only [Act.put, List.getElem_toArray, List.getElem_cons_zero, List.getElem_cons_succ, List.setIfInBounds_toArray, List.set_cons_zero, List.set_cons_succ])
                refine wpAnyIn_ready (rs := [10]) (by kernel_rfl) (by simp) ?_
                refine AllReadyIn.cons (o := ({ dst := some 29, op := .call { callee := .value (.func 23), args := #[.tmp 24, .tmp 28], argTypes := #[25, 25] }, type := 4, pos := "law.go:43", after := #[⟨5, .data⟩, ⟨9, .data⟩, ⟨4, .chain⟩, ⟨4, .guard⟩], guard := some (4, false) } : Go.Oper)) rfl (fun K hK => ?_) AllReadyIn.nil
                go_simp
                refine ⟨trivial, fun h => (by simp [Fence.wide] at h), ?_⟩; refine (CallsIn.inRound _ (callsIn_wide.2 (rsame_self _ _ y _ (HE2.out.ext (by with_reducible (repeat (first | exact Ext.rfl_ _ | assumption | refine Ext.drew ?_ | refine Ext.drewN ?_ _ | refine Ext.alloc ?_ _ | refine Ext.trans ?_ (by assumption))))) ((HY.out.ext H2.out.ext).ext (by with_reducible (repeat (first | exact Ext.rfl_ _ | assumption | refine Ext.drew ?_ | refine Ext.drewN ?_ _ | refine Ext.alloc ?_ _ | refine Ext.trans ?_ (by assumption)))))))).mono ?_; rintro e w3 ⟨rfl, hw3⟩
                refine hK _ _ ?_
                clear hK K
                (try simp only [Act.put, List.getElem_toArray, List.getElem_cons_zero, List.getElem_cons_succ, List.setIfInBounds_toArray, List.set_cons_zero, List.set_cons_succ])
                refine wpAnyIn_ready (rs := [11]) (by kernel_rfl) (by simp) ?_
                refine AllReadyIn.cons (o := ({ dst := some 30, op := .unOp .not 4 (.tmp 29), type := 4, pos := "law.go:43", after := #[⟨10, .data⟩, ⟨4, .guard⟩], guard := some (4, false) } : Go.Oper)) rfl (fun K hK => ?_) AllReadyIn.nil
                go_simp
                refine hK _ _ ?_
                clear hK K
                (try simp only [Act.put, List.getElem_toArray, List.getElem_cons_zero, List.getElem_cons_succ, List.setIfInBounds_toArray, List.set_cons_zero, List.set_cons_succ])
                refine wpAnyIn_ready (rs := [12]) (by kernel_rfl) (by simp) ?_
                refine AllReadyIn.cons (o := ({ dst := some 31, op := .pick (.tmp 23) (.const (.bool true)) (.tmp 30), type := 4, pos := "law.go:43", after := #[⟨4, .data⟩, ⟨11, .data⟩], guard := none } : Go.Oper)) rfl (fun K hK => ?_) AllReadyIn.nil
                go_simp
                refine hK _ _ ?_
                clear hK K
                (try simp only [Act.put, List.getElem_toArray, List.getElem_cons_zero, List.getElem_cons_succ, List.setIfInBounds_toArray, List.set_cons_zero, List.set_cons_succ])
                refine wpAnyIn_done (by kernel_rfl) ?_ _
    case' more1 =>
      refine AllReadyIn.cons (o := ({ dst := some 20, op := .load 42 (.tmp 6), type := 42, pos := "law.go:43", after := #[], guard := none } : Go.Oper)) rfl (fun K hK => ?_) AllReadyIn.nil
      go_simp
      refine hK _ _ ?_
      clear hK K
      (try simp only [Act.put, List.getElem_toArray, List.getElem_cons_zero, List.getElem_cons_succ, List.setIfInBounds_toArray, List.set_cons_zero, List.set_cons_succ])
      refine wpAnyIn_ready (rs := [0, 2]) (by kernel_rfl) (by simp) ?_
      refine AllReadyIn.cons (o := ({ dst := some 19, op := .load 3 (.tmp 9), type := 3, pos := "law.go:43", after := #[], guard := none } : Go.Oper)) rfl (fun K hK => ?one11) ?more11
      case' one11 =>
        go_simp
        refine hK _ _ ?_
        clear hK K
        (try simp only [Act.put, List.getElem_toArray, List.getElem_cons_zero, List.getElem_cons_succ, List.setIfInBounds_toArray, List.set_cons_zero, List.set_cons_succ])
        refine wpAnyIn_ready (rs := [2]) (by kernel_rfl) (by simp) ?_
        refine AllReadyIn.cons (o := ({ dst := some 21, op := .call { callee := .builtin .len, args := #[.tmp 20], argTypes := #[42] }, type := 3, pos := "law.go:43", after := #[⟨1, .data⟩], guard := none } : Go.Oper)) rfl (fun K hK => ?_) AllReadyIn.nil
        go_simp
        refine hK _ _ ?_
        clear hK K
        (try simp only [Act.put, List.getElem_toArray, List.getElem_cons_zero, List.getElem_cons_succ, List.setIfInBounds_toArray, List.set_cons_zero, List.set_cons_succ])
        refine wpAnyIn_ready (rs := [3]) (by kernel_rfl) (by simp) ?_
        refine AllReadyIn.cons (o := ({ dst := some 22, op := .binOp .geq 3 (.tmp 19) (.tmp 21) 3, type := 4, pos := "law.go:43", after := #[⟨0, .data⟩, ⟨2, .data⟩], guard := none } : Go.Oper)) rfl (fun K hK => ?_) AllReadyIn.nil
        go_simp
        refine hK _ _ ?_
        clear hK K
        (try simp only [Act.put, List.getElem_toArray, List.getElem_cons_zero, List.getElem_cons_succ, List.setIfInBounds_toArray, List.set_cons_zero, List.set_cons_succ])
        refine wpAnyIn_ready (rs := [4]) (by kernel_rfl) (by simp) ?_
        refine AllReadyIn.cons (o := ({ dst := some 23, op := .move (.tmp 22), type := 4, pos := "law.go:43", after := #[⟨3, .data⟩], guard := none } : Go.Oper)) rfl (fun K hK => ?_) AllReadyIn.nil
        go_simp
        refine hK _ _ ?_
        clear hK K
        (try simp only [Act.put, List.getElem_toArray, List.getElem_cons_zero, List.getElem_cons_succ, List.setIfInBounds_toArray, List.set_cons_zero, List.set_cons_succ])
        refine wpAnyIn_ready (rs := [5, 6, 7]) (by kernel_rfl) (by simp) ?_
        refine AllReadyIn.cons (o := ({ dst := some 24, op := .load 25 (.tmp 11), type := 25, pos := "law.go:43", after := #[⟨4, .guard⟩], guard := some (4, false) } : Go.Oper)) rfl (fun K hK => ?one12) ?more12
        case' one12 =>
          go_simp
          refine hK _ _ ?_
          clear hK K
          (try simp only [Act.put, List.getElem_toArray, List.getElem_cons_zero, List.getElem_cons_succ, List.setIfInBounds_toArray, List.set_cons_zero, List.set_cons_succ])
          refine wpAnyIn_ready (rs := [6, 7]) (by kernel_rfl) (by simp) ?_
          refine AllReadyIn.cons (o := ({ dst := some 25, op := .load 42 (.tmp 6), type := 42, pos := "law.go:43", after := #[⟨4, .guard⟩], guard := some (4, false) } : Go.Oper)) rfl (fun K hK => ?one13) ?more13
          case' one13 =>
            go_simp
            refine hK _ _ ?_
            clear hK K
            (try simp only [Act.put, List.getElem_toArray, List.getElem_cons_zero, List.getElem_cons_succ, List.setIfInBounds_toArray, List.set_cons_zero, List.set_cons_succ])
            refine wpAnyIn_ready (rs := [7]) (by kernel_rfl) (by simp) ?_
            refine AllReadyIn.cons (o := ({ dst := some 26, op := .load 3 (.tmp 9), type := 3, pos := "law.go:43", after := #[⟨4, .guard⟩], guard := some (4, false) } : Go.Oper)) rfl (fun K hK => ?_) AllReadyIn.nil
            go_simp
            refine hK _ _ ?_
            clear hK K
            (try simp only [Act.put, List.getElem_toArray, List.getElem_cons_zero, List.getElem_cons_succ, List.setIfInBounds_toArray, List.set_cons_zero, List.set_cons_succ])
            refine wpAnyIn_ready (rs := [8]) (by kernel_rfl) (by simp) ?_
            refine AllReadyIn.cons (o := ({ dst := some 27, op := .indexAddr 42 (.tmp 25) (.tmp 26), type := 0, pos := "law.go:43", after := #[⟨6, .data⟩, ⟨7, .data⟩, ⟨4, .guard⟩], guard := some (4, false) } : Go.Oper)) rfl (fun K hK => ?_) AllReadyIn.nil
            go_simp
            refine hK _ _ ?_
            clear hK K
            (try simp only [Act.put, List.getElem_toArray, List.getElem_cons_zero, List.getElem_cons_succ, List.setIfInBounds_toArray, List.set_cons_zero, List.set_cons_succ])
            refine wpAnyIn_ready (rs := [9]) (by kernel_rfl) (by simp) ?_
            refine AllReadyIn.cons (o := ({ dst := some 28, op := .load 25 (.tmp 27), type := 25, pos := "law.go:43", after := #[⟨8, .data⟩, ⟨4, .guard⟩], guard := some (4, false) } : Go.Oper)) rfl (fun K hK => ?_) AllReadyIn.nil
            go_simp
            refine hK _ _ ?_
            clear hK K
            (try simp only [Act.put, List.getElem_toArray, List.getElem_cons_zero, List.getElem_cons_succ, List.setIfInBounds_toArray, List.set_cons_zero, List.set_cons_succ])
            refine wpAnyIn_ready (rs := [10]) (by kernel_rfl) (by simp) ?_
            refine AllReadyIn.cons (o := ({ dst := some 29, op := .call { callee := .value (.func 23), args := #[.tmp 24, .tmp 28], argTypes := #[25, 25] }, type := 4, pos := "law.go:43", after := #[⟨5, .data⟩, ⟨9, .data⟩, ⟨4, .chain⟩, ⟨4, .guard⟩], guard := some (4, false) } : Go.Oper)) rfl (fun K hK => ?_) AllReadyIn.nil
            go_simp
            refine ⟨trivial, fun h => (by simp [Fence.wide] at h), ?_⟩; refine (CallsIn.inRound _ (callsIn_wide.2 (rsame_self _ _ y _ (HE2.out.ext (by with_reducible (repeat (first | exact Ext.rfl_ _ | assumption | refine Ext.drew ?_ | refine Ext.drewN ?_ _ | refine Ext.alloc ?_ _ | refine Ext.trans ?_ (by assumption))))) ((HY.out.ext H2.out.ext).ext (by with_reducible (repeat (first | exact Ext.rfl_ _ | assumption | refine Ext.drew ?_ | refine Ext.drewN ?_ _ | refine Ext.alloc ?_ _ | refine Ext.trans ?_ (by assumption)))))))).mono ?_; rintro e w3 ⟨rfl, hw3⟩
            refine hK _ _ ?_
            clear hK K
            (try simp only [Act.put, List.getElem_toArray, List.getElem_cons_zero, List.getElem_cons_succ, List.setIfInBounds_toArray, List.set_cons_zero, List.set_cons_succ])
            refine wpAnyIn_ready (rs := [11]) (by kernel_rfl) (by simp) ?_
            refine AllReadyIn.cons (o := ({ dst := some 30, op := .unOp .not 4 (.tmp 29), type := 4, pos := "law.go:43", after := #[⟨10, .data⟩, ⟨4, .guard⟩], guard := some (4, false) } : Go.Oper)) rfl (fun K hK => ?_) AllReadyIn.nil
            go_simp
            refine hK _ _ ?_
            clear hK K
            (try simp only [Act.put, List.getElem_toArray, List.getElem_cons_zero, List.getElem_cons_succ, List.setIfInBounds_toArray, List.set_cons_zero, List.set_cons_succ])
            refine wpAnyIn_ready (rs := [12]) (by kernel_rfl) (by simp) ?_
            refine AllReadyIn.cons (o := ({ dst := some 31, op := .pick (.tmp 23) (.const (.bool true)) (.tmp 30), type := 4, pos := "law.go:43", after := #[⟨4, .data⟩, ⟨11, .data⟩], guard := none } : Go.Oper)) rfl (fun K hK => ?_) AllReadyIn.nil
            go_simp
            refine hK _ _ ?_
            clear hK K
            (try simp only [Act.put, List.getElem_toArray, List.getElem_cons_zero, List.getElem_cons_succ, List.setIfInBounds_toArray, List.set_cons_zero, List.set_cons_succ])
            refine wpAnyIn_done (by kernel_rfl) ?_ _
          case' more13 =>
            refine AllReadyIn.cons (o := ({ dst := some 26, op := .load 3 (.tmp 9), type := 3, pos := "law.go:43", after := #[⟨4, .guard⟩], guard := some (4, false) } : Go.Oper)) rfl (fun K hK => ?_) AllReadyIn.nil
            go_simp
            refine hK _ _ ?_
            clear hK K
            (try simp only [Act.put, List.getElem_toArray, List.getElem_cons_zero, List.getElem_cons_succ, List.setIfInBounds_toArray, List.set_cons_zero, List.set_cons_succ])
            refine wpAnyIn_ready (rs := [6]) (by kernel_rfl) (by simp) ?_
            refine AllReadyIn.cons (o := ({ dst := some 25, op := .load 42 (.tmp 6), type := 42, pos := "law.go:43", after := #[⟨4, .guard⟩], guard := some (4, false) } : Go.Oper)) rfl (fun K hK => ?_) AllReadyIn.nil
            go_simp
            refine hK _ _ ?_
            clear hK K
            (try simp only [Act.put, List.getElem_toArray, List.getElem_cons_zero, List.getElem_cons_succ, List.setIfInBounds_toArray, List.set_cons_zero, List.set_cons_succ])
            refine wpAnyIn_ready (rs := [8]) (by kernel_rfl) (by simp) ?_
            refine AllReadyIn.cons (o := ({ dst := some 27, op := .indexAddr 42 (.tmp 25) (.tmp 26), type := 0, pos := "law.go:43", after := #[⟨6, .data⟩, ⟨7, .data⟩, ⟨4, .guard⟩], guard := some (4, false) } : Go.Oper)) rfl (fun K hK => ?_) AllReadyIn.nil
            go_simp
            refine hK _ _ ?_
            clear hK K
            (try simp only [Act.put, List.getElem_toArray, List.getElem_cons_zero, List.getElem_cons_succ, List.setIfInBounds_toArray, List.set_cons_zero, List.set_cons_succ])
            refine wpAnyIn_ready (rs := [9]) (by kernel_rfl) (by simp) ?_
            refine AllReadyIn.cons (o := ({ dst := some 28, op := .load 25 (.tmp 27), type := 25, pos := "law.go:43", after := #[⟨8, .data⟩, ⟨4, .guard⟩], guard := some (4, false) } : Go.Oper)) rfl (fun K hK => ?_) AllReadyIn.nil
            go_simp
            refine hK _ _ ?_
            clear hK K
            (try simp only [Act.put, List.getElem_toArray, List.getElem_cons_zero, List.getElem_cons_succ, List.setIfInBounds_toArray, List.set_cons_zero, List.set_cons_succ])
            refine wpAnyIn_ready (rs := [10]) (by kernel_rfl) (by simp) ?_
            refine AllReadyIn.cons (o := ({ dst := some 29, op := .call { callee := .value (.func 23), args := #[.tmp 24, .tmp 28], argTypes := #[25, 25] }, type := 4, pos := "law.go:43", after := #[⟨5, .data⟩, ⟨9, .data⟩, ⟨4, .chain⟩, ⟨4, .guard⟩], guard := some (4, false) } : Go.Oper)) rfl (fun K hK => ?_) AllReadyIn.nil
            go_simp
            refine ⟨trivial, fun h => (by simp [Fence.wide] at h), ?_⟩; refine (CallsIn.inRound _ (callsIn_wide.2 (rsame_self _ _ y _ (HE2.out.ext (by with_reducible (repeat (first | exact Ext.rfl_ _ | assumption | refine Ext.drew ?_ | refine Ext.drewN ?_ _ | refine Ext.alloc ?_ _ | refine Ext.trans ?_ (by assumption))))) ((HY.out.ext H2.out.ext).ext (by with_reducible (repeat (first | exact Ext.rfl_ _ | assumption | refine Ext.drew ?_ | refine Ext.drewN ?_ _ | refine Ext.alloc ?_ _ | refine Ext.trans ?_ (by assumption)))))))).mono ?_; rintro e w3 ⟨rfl, hw3⟩
            refine hK _ _ ?_
            clear hK K
            (try simp only [Act.put, List.getElem_toArray, List.getElem_cons_zero, List.getElem_cons_succ, List.setIfInBounds_toArray, List.set_cons_zero, List.set_cons_succ])
            refine wpAnyIn_ready (rs := [11]) (by kernel_rfl) (by simp) ?_
            refine AllReadyIn.cons (o := ({ dst := some 30, op := .unOp .not 4 (.tmp 29), type := 4, pos := "law.go:43", after := #[⟨10, .data⟩, ⟨4, .guard⟩], guard := some (4, false) } : Go.Oper)) rfl (fun K hK => ?_) AllReadyIn.nil
            go_simp
            refine hK _ _ ?_
            clear hK K
            (try simp only [Act.put, List.getElem_toArray, List.getElem_cons_zero, List.getElem_cons_succ, List.setIfInBounds_toArray, List.set_cons_zero, List.set_cons_succ])
            refine wpAnyIn_ready (rs := [12]) (by kernel_rfl) (by simp) ?_
            refine AllReadyIn.cons (o := ({ dst := some 31, op := .pick (.tmp 23) (.const (.bool true)) (.tmp 30), type := 4, pos := "law.go:43", after := #[⟨4, .data⟩, ⟨11, .data⟩], guard := none } : Go.Oper)) rfl (fun K hK => ?_) AllReadyIn.nil
            go_simp
            refine hK _ _ ?_
            clear hK K
            (try simp only [Act.put, List.getElem_toArray, List.getElem_cons_zero, List.getElem_cons_succ, List.setIfInBounds_toArray, List.set_cons_zero, List.set_cons_succ])
            refine wpAnyIn_done (by kernel_rfl) ?_ _
        case' more12 =>
          refine AllReadyIn.cons (o := ({ dst := some 25, op := .load 42 (.tmp 6), type := 42, pos := "law.go:43", after := #[⟨4, .guard⟩], guard := some (4, false) } : Go.Oper)) rfl (fun K hK => ?one14) ?more14
          case' one14 =>
            go_simp
            refine hK _ _ ?_
            clear hK K
            (try simp only [Act.put, List.getElem_toArray, List.getElem_cons_zero, List.getElem_cons_succ, List.setIfInBounds_toArray, List.set_cons_zero, List.set_cons_succ])
            refine wpAnyIn_ready (rs := [5, 7]) (by kernel_rfl) (by simp) ?_
            refine AllReadyIn.cons (o := ({ dst := some 24, op := .load 25 (.tmp 11), type := 25, pos := "law.go:43", after := #[⟨4, .guard⟩], guard := some (4, false) } : Go.Oper)) rfl (fun K hK => ?one15) ?more15
            case' one15 =>
              go_simp
              refine hK _ _ ?_
              clear hK K
              (try simp only [Act.put, List.getElem_toArray, List.getElem_cons_zero, List.getElem_cons_succ, List.setIfInBounds_toArray, List.set_cons_zero, List.set_cons_succ])
              refine wpAnyIn_ready (rs := [7]) (by kernel_rfl) (by simp) ?_
              refine AllReadyIn.cons (o := ({ dst := some 26, op := .load 3 (.tmp 9), type := 3, pos := "law.go:43", after := #[⟨4, .guard⟩], guard := some (4, false) } : Go.Oper)) rfl (fun K hK => ?_) AllReadyIn.nil
              go_simp
              refine hK _ _ ?_
              clear hK K
              (try simp only [Act.put, List.getElem_toArray, List.getElem_cons_zero, List.getElem_cons_succ, List.setIfInBounds_toArray, List.set_cons_zero, List.set_cons_succ])
              refine wpAnyIn_ready (rs := [8]) (by kernel_rfl) (by simp) ?_
              refine AllReadyIn.cons (o := ({ dst := some 27, op := .indexAddr 42 (.tmp 25) (.tmp 26), type := 0, pos := "law.go:43", after := #[⟨6, .data⟩, ⟨7, .data⟩, ⟨4, .guard⟩], guard := some (4, false) } : Go.Oper)) rfl (fun K hK => ?_) AllReadyIn.nil
              go_simp
              refine hK _ _ ?_
              clear hK K
              (try simp only [Act.put, List.getElem_toArray, List.getElem_cons_zero, List.getElem_cons_succ, List.setIfInBounds_toArray, List.set_cons_zero, List.set_cons_succ])
              refine wpAnyIn_ready (rs := [9]) (by kernel_rfl) (by simp) ?_
              refine AllReadyIn.cons (o := ({ dst := some 28, op := .load 25 (.tmp 27), type := 25, pos := "law.go:43", after := #[⟨8, .data⟩, ⟨4, .guard⟩], guard := some (4, false) } : Go.Oper)) rfl (fun K hK => ?_) AllReadyIn.nil
              go_simp
              refine hK _ _ ?_
              clear hK K
              (try simp only [Act.put, List.getElem_toArray, List.getElem_cons_zero, List.getElem_cons_succ, List.setIfInBounds_toArray, List.set_cons_zero, List.set_cons_succ])
              refine wpAnyIn_ready (rs := [10]) (by kernel_rfl) (by simp) ?_
              refine AllReadyIn.cons (o := ({ dst := some 29, op := .call { callee := .value (.func 23), args := #[.tmp 24, .tmp 28], argTypes := #[25, 25] }, type := 4, pos := "law.go:43", after := #[⟨5, .data⟩, ⟨9, .data⟩, ⟨4, .chain⟩, ⟨4, .guard⟩], guard := some (4, false) } : Go.Oper)) rfl (fun K hK => ?_) AllReadyIn.nil
              go_simp
              refine ⟨trivial, fun h => (by simp [Fence.wide] at h), ?_⟩; refine (CallsIn.inRound _ (callsIn_wide.2 (rsame_self _ _ y _ (HE2.out.ext (by with_reducible (repeat (first | exact Ext.rfl_ _ | assumption | refine Ext.drew ?_ | refine Ext.drewN ?_ _ | refine Ext.alloc ?_ _ | refine Ext.trans ?_ (by assumption))))) ((HY.out.ext H2.out.ext).ext (by with_reducible (repeat (first | exact Ext.rfl_ _ | assumption | refine Ext.drew ?_ | refine Ext.drewN ?_ _ | refine Ext.alloc ?_ _ | refine Ext.trans ?_ (by assumption)))))))).mono ?_; rintro e w3 ⟨rfl, hw3⟩
              refine hK _ _ ?_
              clear hK K
              (try simp only [Act.put, List.getElem_toArray, List.getElem_cons_zero, List.getElem_cons_succ, List.setIfInBounds_toArray, List.set_cons_zero, List.set_cons_succ])
              refine wpAnyIn_ready (rs := [11]) (by kernel_rfl) (by simp) ?_
              refine AllReadyIn.cons (o := ({ dst := some 30, op := .unOp .not 4 (.tmp 29), type := 4, pos := "law.go:43", after := #[⟨10, .data⟩, ⟨4, .guard⟩], guard := some (4, false) } : Go.Oper)) rfl (fun K hK => ?_) AllReadyIn.nil
              go_simp
              refine hK _ _ ?_
              clear hK K
              (try simp only [Act.put, List.getElem_toArray, List.getElem_cons_zero, List.getElem_cons_succ, List.setIfInBounds_toArray, List.set_cons_zero, List.set_cons_succ])
              refine wpAnyIn_ready (rs := [12]) (by kernel_rfl) (by simp) ?_
              refine AllReadyIn.cons (o := ({ dst := some 31, op := .pick (.tmp 23) (.const (.bool true)) (.tmp 30), type := 4, pos := "law.go:43", after := #[⟨4, .data⟩, ⟨11, .data⟩], guard := none } : Go.Oper)) rfl (fun K hK => ?_) AllReadyIn.nil
              go_simp
              refine hK _ _ ?_
              clear hK K
              (try simp only [Act.put, List.getElem_toArray, List.getElem_cons_zero, List.getElem_cons_succ, List.setIfInBounds_toArray, List.set_cons_zero, List.set_cons_succ])
              refine wpAnyIn_done (by kernel_rfl) ?_ _
            case' more15 =>
              refine AllReadyIn.cons (o := ({ dst := some 26, op := .load 3 (.tmp 9), type := 3, pos := "law.go:43", after := #[⟨4, .guard⟩], guard := some (4, false) } : Go.Oper)) rfl (fun K hK => ?_) AllReadyIn.nil
              go_simp
              refine hK _ _ ?_
              clear hK K
              (try simp only [Act.put, List.getElem_toArray, List.getElem_cons_zero, List.getElem_cons_succ, List.setIfInBounds_toArray, List.set_cons_zero, List.set_cons_succ])
              refine wpAnyIn_ready (rs := [5, 8]) (by kernel_rfl) (by simp) ?_
              refine AllReadyIn.cons (o := ({ dst := some 24, op := .load 25 (.tmp 11), type := 25, pos := "law.go:43", after := #[⟨4, .guard⟩], guard := some (4, false) } : Go.Oper)) rfl (fun K hK => ?one16) ?more16
              case' one16 =>
                go_simp
                refine hK _ _ ?_
                clear hK K
                (try simp only [Act.put, List.getElem_toArray, List.getElem_cons_zero, List.getElem_cons_succ, List.setIfInBounds_toArray, List.set_cons_zero, List.set_cons_succ])
                refine wpAnyIn_ready (rs := [8]) (by kernel_rfl) (by simp) ?_
                refine AllReadyIn.cons (o := ({ dst := some 27, op := .indexAddr 42 (.tmp 25) (.tmp 26), type := 0, pos := "law.go:43", after := #[⟨6, .data⟩, ⟨7, .data⟩, ⟨4, .guard⟩], guard := some (4, false) } : Go.Oper)) rfl (fun K hK => ?_) AllReadyIn.nil
                go_simp
                refine hK _ _ ?_
                clear hK K
                (try simp only [Act.put, List.getElem_toArray, List.getElem_cons_zero, List.getElem_cons_succ, List.setIfInBounds_toArray, List.set_cons_zero, List.set_cons_succ])
                refine wpAnyIn_ready (rs := [9]) (by kernel_rfl) (by simp) ?_
                refine AllReadyIn.cons (o := ({ dst := some 28, op := .load 25 (.tmp 27), type := 25, pos := "law.go:43", after := #[⟨8, .data⟩, ⟨4, .guard⟩], guard := some (4, false) } : Go.Oper)) rfl (fun K hK => ?_) AllReadyIn.nil
                go_simp
                refine hK _ _ ?_
                clear hK K
                (try simp only [Act.put, List.getElem_toArray, List.getElem_cons_zero, List.getElem_cons_succ, List.setIfInBounds_toArray, List.set_cons_zero, List.set_cons_succ])
                refine wpAnyIn_ready (rs := [10]) (by kernel_rfl) (by simp) ?_
                refine AllReadyIn.cons (o := ({ dst := some 29, op := .call { callee := .value (.func 23), args := #[.tmp 24, .tmp 28], argTypes := #[25, 25] }, type := 4, pos := "law.go:43", after := #[⟨5, .data⟩, ⟨9, .data⟩, ⟨4, .chain⟩, ⟨4, .guard⟩], guard := some (4, false) } : Go.Oper)) rfl (fun K hK => ?_) AllReadyIn.nil
                go_simp
                refine ⟨trivial, fun h => (by simp [Fence.wide] at h), ?_⟩; refine (CallsIn.inRound _ (callsIn_wide.2 (rsame_self _ _ y _ (HE2.out.ext (by with_reducible (repeat (first | exact Ext.rfl_ _ | assumption | refine Ext.drew ?_ | refine Ext.drewN ?_ _ | refine Ext.alloc ?_ _ | refine Ext.trans ?_ (by assumption))))) ((HY.out.ext H2.out.ext).ext (by with_reducible (repeat (first | exact Ext.rfl_ _ | assumption | refine Ext.drew ?_ | refine Ext.drewN ?_ _ | refine Ext.alloc ?_ _ | refine Ext.trans ?_ (by assumption)))))))).mono ?_; rintro e w3 ⟨rfl, hw3⟩
                refine hK _ _ ?_
                clear hK K
                (try simp only [Act.put, List.getElem_toArray, List.getElem_cons_zero, List.getElem_cons_succ, List.setIfInBounds_toArray, List.set_cons_zero, List.set_cons_succ])
                refine wpAnyIn_ready (rs := [11]) (by kernel_rfl) (by simp) ?_
                refine AllReadyIn.cons (o := ({ dst := some 30, op := .unOp .not 4 (.tmp 29), type := 4, pos := "law.go:43", after := #[⟨10, .data⟩, ⟨4, .guard⟩], guard := some (4, false) } : Go.Oper)) rfl (fun K hK => ?_) AllReadyIn.nil
                go_simp
                refine hK _ _ ?_
                clear hK K
                (try simp only [Act.put, List.getElem_toArray, List.getElem_cons_zero, List.getElem_cons_succ, List.setIfInBounds_toArray, List.set_cons_zero, List.set_cons_succ])
                refine wpAnyIn_ready (rs := [12]) (by kernel_rfl) (by simp) ?_
                refine AllReadyIn.cons (o := ({ dst := some 31, op := .pick (.tmp 23) (.const (.bool true)) (.tmp 30), type := 4, pos := "law.go:43", after := #[⟨4, .data⟩, ⟨11, .data⟩], guard := none } : Go.Oper)) rfl (fun K hK => ?_) AllReadyIn.nil
                go_simp
                refine hK _ _ ?_
                clear hK K
                (try simp only [Act.put, List.getElem_toArray, List.getElem_cons_zero, List.getElem_cons_succ, List.setIfInBounds_toArray, List.set_cons_zero, List.set_cons_succ])
                refine wpAnyIn_done (by kernel_rfl) ?_ _
              case' more16 =>
                refine AllReadyIn.cons (o := ({ dst := some 27, op := .indexAddr 42 (.tmp 25) (.tmp 26), type := 0, pos := "law.go:43", after := #[⟨6, .data⟩, ⟨7, .data⟩, ⟨4, .guard⟩], guard := some (4, false) } : Go.Oper)) rfl (fun K hK => ?_) AllReadyIn.nil
                go_simp
                refine hK _ _ ?_
                clear hK K
                (try simp only [Act.put, List.getElem_toArray, List.getElem_cons_zero, List.getElem_cons_succ, List.setIfInBounds_toArray, List.set_cons_zero, List.set_cons_succ])
                refine wpAnyIn_ready (rs := [5, 9]) (by kernel_rfl) (by simp) ?_
                refine AllReadyIn.cons (o := ({ dst := some 24, op := .load 25 (.tmp 11), type := 25, pos := "law.go:43", after := #[⟨4, .guard⟩], guard := some (4, false) } : Go.Oper)) rfl (fun K hK => ?one17) ?more17
                case' one17 =>
                  go_simp
                  refine hK _ _ ?_
                  clear hK K
                  (try simp only [Act.put, List.getElem_toArray, List.getElem_cons_zero, List.getElem_cons_succ, List.setIfInBounds_toArray, List.set_cons_zero, List.set_cons_succ])
                  refine wpAnyIn_ready (rs := [9]) (by kernel_rfl) (by simp) ?_
                  refine AllReadyIn.cons (o := ({ dst := some 28, op := .load 25 (.tmp 27), type := 25, pos := "law.go:43", after := #[⟨8, .data⟩, ⟨4, .guard⟩], guard := some (4, false) } : Go.Oper)) rfl (fun K hK => ?_) AllReadyIn.nil
                  go_simp
                  refine hK _ _ ?_
                  clear hK K
                  (try simp only [Act.put, List.getElem_toArray, List.getElem_cons_zero, List.getElem_cons_succ, List.setIfInBounds_toArray, List.set_cons_zero, List.set_cons_succ])
                  refine wpAnyIn_ready (rs := [10]) (by kernel_rfl) (by simp) ?_
                  refine AllReadyIn.cons (o := ({ dst := some 29, op := .call { callee := .value (.func 23), args := #[.tmp 24, .tmp 28], argTypes := #[25, 25] }, type := 4, pos := "law.go:43", after := #[⟨5, .data⟩, ⟨9, .data⟩, ⟨4, .chain⟩, ⟨4, .guard⟩], guard := some (4, false) } : Go.Oper)) rfl (fun K hK => ?_) AllReadyIn.nil
                  go_simp
                  refine ⟨trivial, fun h => (by simp [Fence.wide] at h), ?_⟩; refine (CallsIn.inRound _ (callsIn_wide.2 (rsame_self _ _ y _ (HE2.out.ext (by with_reducible (repeat (first | exact Ext.rfl_ _ | assumption | refine Ext.drew ?_ | refine Ext.drewN ?_ _ | refine Ext.alloc ?_ _ | refine Ext.trans ?_ (by assumption))))) ((HY.out.ext H2.out.ext).ext (by with_reducible (repeat (first | exact Ext.rfl_ _ | assumption | refine Ext.drew ?_ | refine Ext.drewN ?_ _ | refine Ext.alloc ?_ _ | refine Ext.trans ?_ (by assumption)))))))).mono ?_; rintro e w3 ⟨rfl, hw3⟩
                  refine hK _ _ ?_
                  clear hK K
                  (try simp only [Act.put, List.getElem_toArray, List.getElem_cons_zero, List.getElem_cons_succ, List.setIfInBounds_toArray, List.set_cons_zero, List.set_cons_succ])
                  refine wpAnyIn_ready (rs := [11]) (by kernel_rfl) (by simp) ?_
                  refine AllReadyIn.cons (o := ({ dst := some 30, op := .unOp .not 4 (.tmp 29), type := 4, pos := "law.go:43", after := #[⟨10, .data⟩, ⟨4, .guard⟩], guard := some (4, false) } : Go.Oper)) rfl (fun K hK => ?_) AllReadyIn.nil
                  go_simp
                  refine hK _ _ ?_
                  clear hK K
                  (try simp only [Act.put, List.getElem_toArray, List.getElem_cons_zero, List.getElem_cons_succ, List.setIfInBounds_toArray, List.set_cons_zero, List.set_cons_succ])
                  refine wpAnyIn_ready (rs := [12]) (by kernel_rfl) (by simp) ?_
                  refine AllReadyIn.cons (o := ({ dst := some 31, op := .pick (.tmp 23) (.const (.bool true)) (.tmp 30), type := 4, pos := "law.go:43", after := #[⟨4, .data⟩, ⟨11, .data⟩], guard := none } : Go.Oper)) rfl (fun K hK => ?_) AllReadyIn.nil
                  go_simp
                  refine hK _ _ ?_
                  clear hK K
                  (try simp only [Act.put, List.getElem_toArray, List.getElem_cons_zero, List.getElem_cons_succ, List.setIfInBounds_toArray, List.set_cons_zero, List.set_cons_succ])
                  refine wpAnyIn_done (by kernel_rfl) ?_ _
                case' more17 =>
                  refine AllReadyIn.cons (o := ({ dst := some 28, op := .load 25 (.tmp 27), type := 25, pos := "law.go:43", after := #[⟨8, .data⟩, ⟨4, .guard⟩], guard := some (4, false) } : Go.Oper)) rfl (fun K hK => ?_) AllReadyIn.nil
                  go_simp
                  refine hK _ _ ?_
                  clear hK K
                  (try simp only [Act.put, List.getElem_toArray, List.getElem_cons_zero, List.getElem_cons_succ, List.setIfInBounds_toArray, List.set_cons_zero, List.set_cons_succ])
                  refine wpAnyIn_ready (rs := [5]) (by kernel_rfl) (by simp) ?_
                  refine AllReadyIn.cons (o := ({ dst := some 24, op := .load 25 (.tmp 11), type := 25, pos := "law.go:43", after := #[⟨4, .guard⟩], guard := some (4, false) } : Go.Oper)) rfl (fun K hK => ?_) AllReadyIn.nil
                  go_simp
                  refine hK _ _ ?_
                  clear hK K
                  (try simp only [Act.put, List.getElem_toArray, List.getElem_cons_zero, List.getElem_cons_succ, List.setIfInBounds_toArray, List.set_cons_zero, List.set_cons_succ])
                  refine wpAnyIn_ready (rs := [10]) (by kernel_rfl) (by simp) ?_
                  refine AllReadyIn.cons (o := ({ dst := some 29, op := .call { callee := .value (.func 23), args := #[.tmp 24, .tmp 28], argTypes := #[25, 25] }, type := 4, pos := "law.go:43", after := #[⟨5, .data⟩, ⟨9, .data⟩, ⟨4, .chain⟩, ⟨4, .guard⟩], guard := some (4, false) } : Go.Oper)) rfl (fun K hK => ?_) AllReadyIn.nil
                  go_simp
                  refine ⟨trivial, fun h => (by simp [Fence.wide] at h), ?_⟩; refine (CallsIn.inRound _ (callsIn_wide.2 (rsame_self _ _ y _ (HE2.out.ext (by with_reducible (repeat (first | exact Ext.rfl_ _ | assumption | refine Ext.drew ?_ | refine Ext.drewN ?_ _ | refine Ext.alloc ?_ _ | refine Ext.trans ?_ (by assumption))))) ((HY.out.ext H2.out.ext).ext (by with_reducible (repeat (first | exact Ext.rfl_ _ | assumption | refine Ext.drew ?_ | refine Ext.drewN ?_ _ | refine Ext.alloc ?_ _ | refine Ext.trans ?_ (by assumption)))))))).mono ?_; rintro e w3 ⟨rfl, hw3⟩
                  refine hK _ _ ?_
                  clear hK K
                  (try simp only [Act.put, List.getElem_toArray, List.getElem_cons_zero, List.getElem_cons_succ, List.setIfInBounds_toArray, List.set_cons_zero, List.set_cons_succ])
                  refine wpAnyIn_ready (rs := [11]) (by kernel_rfl) (by simp) ?_
                  refine AllReadyIn.cons (o := ({ dst := some 30, op := .unOp .not 4 (.tmp 29), type := 4, pos := "law.go:43", after := #[⟨10, .data⟩, ⟨4, .guard⟩], guard := some (4, false) } : Go.Oper)) rfl (fun K hK => ?_) AllReadyIn.nil
                  go_simp
                  refine hK _ _ ?_
                  clear hK K
                  (try simp only [Act.put, List.getElem_toArray, List.getElem_cons_zero, List.getElem_cons_succ, List.setIfInBounds_toArray, List.set_cons_zero, List.set_cons_succ])
                  refine wpAnyIn_ready (rs := [12]) (by kernel_rfl) (by simp) ?_
                  refine AllReadyIn.cons (o := ({ dst := some 31, op := .pick (.tmp 23) (.const (.bool true)) (.tmp 30), type := 4, pos := "law.go:43", after := #[⟨4, .data⟩, ⟨11, .data⟩], guard := none } : Go.Oper)) rfl (fun K hK => ?_) AllReadyIn.nil
                  go_simp
                  refine hK _ _ ?_
                  clear hK K
                  (try simp only [Act.put, List.getElem_toArray, List.getElem_cons_zero, List.getElem_cons_succ, List.setIfInBounds_toArray, List.set_cons_zero, List.set_cons_succ])
                  refine wpAnyIn_done (by kernel_rfl) ?_ _
          case' more14 =>
            refine AllReadyIn.cons (o := ({ dst := some 26, op := .load 3 (.tmp 9), type := 3, pos := "law.go:43", after := #[⟨4, .guard⟩], guard := some (4, false) } : Go.Oper)) rfl (fun K hK => ?_) AllReadyIn.nil
            go_simp
            refine hK _ _ ?_
            clear hK K
            (try simp only [Act.put, List.getElem_toArray, List.getElem_cons_zero, List.getElem_cons_succ, List.setIfInBounds_toArray, List.set_cons_zero, List.set_cons_succ])
            refine wpAnyIn_ready (rs := [5, 6]) (by kernel_rfl) (by simp) ?_
            refine AllReadyIn.cons (o := ({ dst := some 24, op := .load 25 (.tmp 11), type := 25, pos := "law.go:43", after := #[⟨4, .guard⟩], guard := some (4, false) } : Go.Oper)) rfl (fun K hK => ?one18) ?more18
            case' one18 =>
              go_simp
              refine hK _ _ ?_
              clear hK K
              (try simp only [Act.put, List.getElem_toArray, List.getElem_cons_zero, List.getElem_cons_succ, List.setIfInBounds_toArray, List.set_cons_zero, List.set_cons_succ])
              refine wpAnyIn_ready (rs := [6]) (by kernel_rfl) (by simp) ?_
              refine AllReadyIn.cons (o := ({ dst := some 25, op := .load 42 (.tmp 6), type := 42, pos := "law.go:43", after := #[⟨4, .guard⟩], guard := some (4, false) } : Go.Oper)) rfl (fun K hK => ?_) AllReadyIn.nil
              go_simp
              refine hK _ _ ?_
              clear hK K
              (try simp only [Act.put, List.getElem_toArray, List.getElem_cons_zero, List.getElem_cons_succ, List.setIfInBounds_toArray, List.set_cons_zero, List.set_cons_succ])
              refine wpAnyIn_ready (rs := [8]) (by kernel_rfl) (by simp) ?_
              refine AllReadyIn.cons (o := ({ dst := some 27, op := .indexAddr 42 (.tmp 25) (.tmp 26), type := 0, pos := "law.go:43", after := #[⟨6, .data⟩, ⟨7, .data⟩, ⟨4, .guard⟩], guard := some (4, false) } : Go.Oper)) rfl (fun K hK => ?_) AllReadyIn.nil
              go_simp
              refine hK _ _ ?_
              clear hK K
              (try simp only [Act.put, List.getElem_toArray, List.getElem_cons_zero, List.getElem_cons_succ, List.setIfInBounds_toArray, List.set_cons_zero, List.set_cons_succ])
              refine wpAnyIn_ready (rs := [9]) (by kernel_rfl) (by simp) ?_
              refine AllReadyIn.cons (o := ({ dst := some 28, op := .load 25 (.tmp 27), type := 25, pos := "law.go:43", after := #[⟨8, .data⟩, ⟨4, .guard⟩], guard := some (4, false) } : Go.Oper)) rfl (fun K hK => ?_) AllReadyIn.nil
              go_simp
              refine hK _ _ ?_
              clear hK K
              (try simp only [Act.put, List.getElem_toArray, List.getElem_cons_zero, List.getElem_cons_succ, List.setIfInBounds_toArray, List.set_cons_zero, List.set_cons_succ])
              refine wpAnyIn_ready (rs := [10]) (by kernel_rfl) (by simp) ?_
              refine AllReadyIn.cons (o := ({ dst := some 29, op := .call { callee := .value (.func 23), args := #[.tmp 24, .tmp 28], argTypes := #[25, 25] }, type := 4, pos := "law.go:43", after := #[⟨5, .data⟩, ⟨9, .data⟩, ⟨4, .chain⟩, ⟨4, .guard⟩], guard := some (4, false) } : Go.Oper)) rfl (fun K hK => ?_) AllReadyIn.nil
              go_simp
              refine ⟨trivial, fun h => (by simp [Fence.wide] at h), ?_⟩; refine (CallsIn.inRound _ (callsIn_wide.2 (rsame_self _ _ y _ (HE2.out.ext (by with_reducible (repeat (first | exact Ext.rfl_ _ | assumption | refine Ext.drew ?_ | refine Ext.drewN ?_ _ | refine Ext.alloc ?_ _ | refine Ext.trans ?_ (by assumption))))) ((HY.out.ext H2.out.ext).ext (by with_reducible (repeat (first | exact Ext.rfl_ _ | assumption | refine Ext.drew ?_ | refine Ext.drewN ?_ _ | refine Ext.alloc ?_ _ | refine Ext.trans ?_ (by assumption)))))))).mono ?_; rintro e w3 ⟨rfl, hw3⟩
              refine hK _ _ ?_
              clear hK K
              (try simp only [Act.put, List.getElem_toArray, List.getElem_cons_zero, List.getElem_cons_succ, List.setIfInBounds_toArray, List.set_cons_zero, List.set_cons_succ])
              refine wpAnyIn_ready (rs := [11]) (by kernel_rfl) (by simp) ?_
              refine AllReadyIn.cons (o := ({ dst := some 30, op := .unOp .not 4 (.tmp 29), type := 4, pos := "law.go:43", after := #[⟨10, .data⟩, ⟨4, .guard⟩], guard := some (4, false) } : Go.Oper)) rfl (fun K hK => ?_) AllReadyIn.nil
              go_simp
              refine hK _ _ ?_
              clear hK K
              (try simp only [Act.put, List.getElem_toArray, List.getElem_cons_zero, List.getElem_cons_succ, List.setIfInBounds_toArray, List.set_cons_zero, List.set_cons_succ])
              refine wpAnyIn_ready (rs := [12]) (by kernel_rfl) (by simp) ?_
              refine AllReadyIn.cons (o := ({ dst := some 31, op := .pick (.tmp 23) (.const (.bool true)) (.tmp 30), type := 4, pos := "law.go:43", after := #[⟨4, .data⟩, ⟨11, .data⟩], guard := none } : Go.Oper)) rfl (fun K hK => ?_) AllReadyIn.nil
              go_simp
              refine hK _ _ ?_
              clear hK K
              (try simp only [Act.put, List.getElem_toArray, List.getElem_cons_zero, List.getElem_cons_succ, List.setIfInBounds_toArray, List.set_cons_zero, List.set_cons_succ])
              refine wpAnyIn_done (by kernel_rfl) ?_ _
            case' more18 =>
              refine AllReadyIn.cons (o := ({ dst := some 25, op := .load 42 (.tmp 6), type := 42, pos := "law.go:43", after := #[⟨4, .guard⟩], guard := some (4, false) } : Go.Oper)) rfl (fun K hK => ?_) AllReadyIn.nil
              go_simp
              refine hK _ _ ?_
              clear hK K
              (try simp only [Act.put, List.getElem_toArray, List.getElem_cons_zero, List.getElem_cons_succ, List.setIfInBounds_toArray, List.set_cons_zero, List.set_cons_succ])
              refine wpAnyIn_ready (rs := [5, 8]) (by kernel_rfl) (by simp) ?_
              refine AllReadyIn.cons (o := ({ dst := some 24, op := .load 25 (.tmp 11), type := 25, pos := "law.go:43", after := #[⟨4, .guard⟩], guard := some (4, false) } : Go.Oper)) rfl (fun K hK => ?one19) ?more19
              case' one19 =>
                go_simp
                refine hK _ _ ?_
                clear hK K
                (try simp only [Act.put, List.getElem_toArray, List.getElem_cons_zero, List.getElem_cons_succ, List.setIfInBounds_toArray, List.set_cons_zero, List.set_cons_succ])
                refine wpAnyIn_ready (rs := [8]) (by kernel_rfl) (by simp) ?_
                refine AllReadyIn.cons (o := ({ dst := some 27, op := .indexAddr 42 (.tmp 25) (.tmp 26), type := 0, pos := "law.go:43", after := #[⟨6, .data⟩, ⟨7, .data⟩, ⟨4, .guard⟩], guard := some (4, false) } : Go.Oper)) rfl (fun K hK => ?_) AllReadyIn.nil
                go_simp
                refine hK _ _ ?_
                clear hK K
                (try simp only [Act.put, List.getElem_toArray, List.getElem_cons_zero, List.getElem_cons_succ, List.setIfInBounds_toArray, List.set_cons_zero, List.set_cons_succ])
                refine wpAnyIn_ready (rs := [9]) (by kernel_rfl) (by simp) ?_
                refine AllReadyIn.cons (o := ({ dst := some 28, op := .load 25 (.tmp 27), type := 25, pos := "law.go:43", after := #[⟨8, .data⟩, ⟨4, .guard⟩], guard := some (4, false) } : Go.Oper)) rfl (fun K hK => ?_) AllReadyIn.nil
                go_simp
                refine hK _ _ ?_
                clear hK K
                (try simp only [Act.put, List.getElem_toArray, List.getElem_cons_zero, List.getElem_cons_succ, List.setIfInBounds_toArray, List.set_cons_zero, List.set_cons_succ])
                refine wpAnyIn_ready (rs := [10]) (by kernel_rfl) (by simp) ?_
                refine AllReadyIn.cons (o := ({ dst := some 29, op := .call { callee := .value (.func 23), args := #[.tmp 24, .tmp 28], argTypes := #[25, 25] }, type := 4, pos := "law.go:43", after := #[⟨5, .data⟩, ⟨9, .data⟩, ⟨4, .chain⟩, ⟨4, .guard⟩], guard := some (4, false) } : Go.Oper)) rfl (fun K hK => ?_) AllReadyIn.nil
                go_simp
                refine ⟨trivial, fun h => (by simp [Fence.wide] at h), ?_⟩; refine (CallsIn.inRound _ (callsIn_wide.2 (rsame_self _ _ y _ (HE2.out.ext (by with_reducible (repeat (first | exact Ext.rfl_ _ | assumption | refine Ext.drew ?_ | refine Ext.drewN ?_ _ | refine Ext.alloc ?_ _ | refine Ext.trans ?_ (by assumption))))) ((HY.out.ext H2.out.ext).ext (by with_reducible (repeat (first | exact Ext.rfl_ _ | assumption | refine Ext.drew ?_ | refine Ext.drewN ?_ _ | refine Ext.alloc ?_ _ | refine Ext.trans ?_ (by assumption)))))))).mono ?_; rintro e w3 ⟨rfl, hw3⟩
                refine hK _ _ ?_
                clear hK K
                (try simp only [Act.put, List.getElem_toArray, List.getElem_cons_zero, List.getElem_cons_succ, List.setIfInBounds_toArray, List.set_cons_zero, List.set_cons_succ])
                refine wpAnyIn_ready (rs := [11]) (by kernel_rfl) (by simp) ?_
                refine AllReadyIn.cons (o := ({ dst := some 30, op := .unOp .not 4 (.tmp 29), type := 4, pos := "law.go:43", after := #[⟨10, .data⟩, ⟨4, .guard⟩], guard := some (4, false) } : Go.Oper)) rfl (fun K hK => ?_) AllReadyIn.nil
                go_simp
                refine hK _ _ ?_
                clear hK K
                (try simp only [Act.put, List.getElem_toArray, List.getElem_cons_zero, List.getElem_cons_succ, List.setIfInBounds_toArray, List.set_cons_zero, List.set_cons_succ])
                refine wpAnyIn_ready (rs := [12]) (by kernel_rfl) (by simp) ?_
                refine AllReadyIn.cons (o := ({ dst := some 31, op := .pick (.tmp 23) (.const (.bool true)) (.tmp 30), type := 4, pos := "law.go:43", after := #[⟨4, .data⟩, ⟨11, .data⟩], guard := none } : Go.Oper)) rfl (fun K hK => ?_) AllReadyIn.nil
                go_simp
                refine hK _ _ ?_
                clear hK K
                (try simp only [Act.put, List.getElem_toArray, List.getElem_cons_zero, List.getElem_cons_succ, List.setIfInBounds_toArray, List.set_cons_zero, List.set_cons_succ])
                refine wpAnyIn_done (by kernel_rfl) ?_ _
              case' more19 =>
                refine AllReadyIn.cons (o := ({ dst := some 27, op := .indexAddr 42 (.tmp 25) (.tmp 26), type := 0, pos := "law.go:43", after := #[⟨6, .data⟩, ⟨7, .data⟩, ⟨4, .guard⟩], guard := some (4, false) } : Go.Oper)) rfl (fun K hK => ?_) AllReadyIn.nil
                go_simp
                refine hK _ _ ?_
                clear hK K
                (try simp only [Act.put, List.getElem_toArray, List.getElem_cons_zero, List.getElem_cons_succ, List.setIfInBounds_toArray, List.set_cons_zero, List.set_cons_succ])
                refine wpAnyIn_ready (rs := [5, 9]) (by kernel_rfl) (by simp) ?_
                refine AllReadyIn.cons (o := ({ dst := some 24, op := .load 25 (.tmp 11), type := 25, pos := "law.go:43", after := #[⟨4, .guard⟩], guard := some (4, false) } : Go.Oper)) rfl (fun K hK => ?one20) ?more20
                case' one20 =>
                  go_simp
                  refine hK _ _ ?_
                  clear hK K
                  (try simp only [Act.put, List.getElem_toArray, List.getElem_cons_zero, List.getElem_cons_succ, List.setIfInBounds_toArray, List.set_cons_zero, List.set_cons_succ])
                  refine wpAnyIn_ready (rs := [9]) (by kernel_rfl) (by simp) ?_
                  refine AllReadyIn.cons (o := ({ dst := some 28, op := .load 25 (.tmp 27), type := 25, pos := "law.go:43", after := #[⟨8, .data⟩, ⟨4, .guard⟩], guard := some (4, false) } : Go.Oper)) rfl (fun K hK => ?_) AllReadyIn.nil
                  go_simp
                  refine hK _ _ ?_
                  clear hK K
                  (try simp only [Act.put, List.getElem_toArray, List.getElem_cons_zero, List.getElem_cons_succ, List.setIfInBounds_toArray, List.set_cons_zero, List.set_cons_succ])
                  refine wpAnyIn_ready (rs := [10]) (by kernel_rfl) (by simp) ?_
                  refine AllReadyIn.cons (o := ({ dst := some 29, op := .call { callee := .value (.func 23), args := #[.tmp 24, .tmp 28], argTypes := #[25, 25] }, type := 4, pos := "law.go:43", after := #[⟨5, .data⟩, ⟨9, .data⟩, ⟨4, .chain⟩, ⟨4, .guard⟩], guard := some (4, false) } : Go.Oper)) rfl (fun K hK => ?_) AllReadyIn.nil
                  go_simp
                  refine ⟨trivial, fun h => (by simp [Fence.wide] at h), ?_⟩; refine (CallsIn.inRound _ (callsIn_wide.2 (rsame_self _ _ y _ (HE2.out.ext (by with_reducible (repeat (first | exact Ext.rfl_ _ | assumption | refine Ext.drew ?_ | refine Ext.drewN ?_ _ | refine Ext.alloc ?_ _ | refine Ext.trans ?_ (by assumption))))) ((HY.out.ext H2.out.ext).ext (by with_reducible (repeat (first | exact Ext.rfl_ _ | assumption | refine Ext.drew ?_ | refine Ext.drewN ?_ _ | refine Ext.alloc ?_ _ | refine Ext.trans ?_ (by assumption)))))))).mono ?_; rintro e w3 ⟨rfl, hw3⟩
                  refine hK _ _ ?_
                  clear hK K
                  (try simp only [Act.put, List.getElem_toArray, List.getElem_cons_zero, List.getElem_cons_succ, List.setIfInBounds_toArray, List.set_cons_zero, List.set_cons_succ])
                  refine wpAnyIn_ready (rs := [11]) (by kernel_rfl) (by simp) ?_
                  refine AllReadyIn.cons (o := ({ dst := some 30, op := .unOp .not 4 (.tmp 29), type := 4, pos := "law.go:43", after := #[⟨10, .data⟩, ⟨4, .guard⟩], guard := some (4, false) } : Go.Oper)) rfl (fun K hK => ?_) AllReadyIn.nil
                  go_simp
                  refine hK _ _ ?_
                  clear hK K
                  (try simp only [Act.put, List.getElem_toArray, List.getElem_cons_zero, List.getElem_cons_succ, List.setIfInBounds_toArray, List.set_cons_zero, List.set_cons_succ])
                  refine wpAnyIn_ready (rs := [12]) (by kernel_rfl) (by simp) ?_
                  refine AllReadyIn.cons (o := ({ dst := some 31, op := .pick (.tmp 23) (.const (.bool true)) (.tmp 30), type := 4, pos := "law.go:43", after := #[⟨4, .data⟩, ⟨11, .data⟩], guard := none } : Go.Oper)) rfl (fun K hK => ?_) AllReadyIn.nil
                  go_simp
                  refine hK _ _ ?_
                  clear hK K
                  (try simp only [Act.put, List.getElem_toArray, List.getElem_cons_zero, List.getElem_cons_succ, List.setIfInBounds_toArray, List.set_cons_zero, List.set_cons_succ])
                  refine wpAnyIn_done (by kernel_rfl) ?_ _
                case' more20 =>
                  refine AllReadyIn.cons (o := ({ dst := some 28, op := .load 25 (.tmp 27), type := 25, pos := "law.go:43", after := #[⟨8, .data⟩, ⟨4, .guard⟩], guard := some (4, false) } : Go.Oper)) rfl (fun K hK => ?_) AllReadyIn.nil
                  go_simp
                  refine hK _ _ ?_
                  clear hK K
                  (try simp only [Act.put, List.getElem_toArray, List.getElem_cons_zero, List.getElem_cons_succ, List.setIfInBounds_toArray, List.set_cons_zero, List.set_cons_succ])
                  refine wpAnyIn_ready (rs := [5]) (by kernel_rfl) (by simp) ?_
                  refine AllReadyIn.cons (o := ({ dst := some 24, op := .load 25 (.tmp 11), type := 25, pos := "law.go:43", after := #[⟨4, .guard⟩], guard := some (4, false) } : Go.Oper)) rfl (fun K hK => ?_) AllReadyIn.nil
                  go_simp
                  refine hK _ _ ?_
                  clear hK K
                  (try simp only [Act.put, List.getElem_toArray, List.getElem_cons_zero, List.getElem_cons_succ, List.setIfInBounds_toArray, List.set_cons_zero, List.set_cons_succ])
                  refine wpAnyIn_ready (rs := [10]) (by kernel_rfl) (by simp) ?_
                  refine AllReadyIn.cons (o := ({ dst := some 29, op := .call { callee := .value (.func 23), args := #[.tmp 24, .tmp 28], argTypes := #[25, 25] }, type := 4, pos := "law.go:43", after := #[⟨5, .data⟩, ⟨9, .data⟩, ⟨4, .chain⟩, ⟨4, .guard⟩], guard := some (4, false) } : Go.Oper)) rfl (fun K hK => ?_) AllReadyIn.nil
                  go_simp
                  refine ⟨trivial, fun h => (by simp [Fence.wide] at h), ?_⟩; refine (CallsIn.inRound _ (callsIn_wide.2 (rsame_self _ _ y _ (HE2.out.ext (by with_reducible (repeat (first | exact Ext.rfl_ _ | assumption | refine Ext.drew ?_ | refine Ext.drewN ?_ _ | refine Ext.alloc ?_ _ | refine Ext.trans ?_ (by assumption))))) ((HY.out.ext H2.out.ext).ext (by with_reducible (repeat (first | exact Ext.rfl_ _ | assumption | refine Ext.drew ?_ | refine Ext.drewN ?_ _ | refine Ext.alloc ?_ _ | refine Ext.trans ?_ (by assumption)))))))).mono ?_; rintro e w3 ⟨rfl, hw3⟩
                  refine hK _ _ ?_
                  clear hK K
                  (try simp only [Act.put, List.getElem_toArray, List.getElem_cons_zero, List.getElem_cons_succ, List.setIfInBounds_toArray, List.set_cons_zero, List.set_cons_succ])
                  refine wpAnyIn_ready (rs := [11]) (by kernel_rfl) (by simp) ?_
                  refine AllReadyIn.cons (o := ({ dst := some 30, op := .unOp .not 4 (.tmp 29), type := 4, pos := "law.go:43", after := #[⟨10, .data⟩, ⟨4, .guard⟩], guard := some (4, false) } : Go.Oper)) rfl (fun K hK => ?_) AllReadyIn.nil
                  go_simp
                  refine hK _ _ ?_
                  clear hK K
                  (try simp only [Act.put, List.getElem_toArray, List.getElem_cons_zero, List.getElem_cons_succ, List.setIfInBounds_toArray, List.set_cons_zero, List.set_cons_succ])
                  refine wpAnyIn_ready (rs := [12]) (by kernel_rfl) (by simp) ?_
                  refine AllReadyIn.cons (o := ({ dst := some 31, op := .pick (.tmp 23) (.const (.bool true)) (.tmp 30), type := 4, pos := "law.go:43", after := #[⟨4, .data⟩, ⟨11, .data⟩], guard := none } : Go.Oper)) rfl (fun K hK => ?_) AllReadyIn.nil
                  go_simp
                  refine hK _ _ ?_
                  clear hK K
                  (try simp only [Act.put, List.getElem_toArray, List.getElem_cons_zero, List.getElem_cons_succ, List.setIfInBounds_toArray, List.set_cons_zero, List.set_cons_succ])
                  refine wpAnyIn_done (by kernel_rfl) ?_ _
      case' more11 =>
        refine AllReadyIn.cons (o := ({ dst := some 21, op := .call { callee := .builtin .len, args := #[.tmp 20], argTypes := #[42] }, type := 3, pos := "law.go:43", after := #[⟨1, .data⟩], guard := none } : Go.Oper)) rfl (fun K hK => ?_) AllReadyIn.nil
        go_simp
        refine hK _ _ ?_
        clear hK K
        (try simp only [Act.put, List.getElem_toArray, List.getElem_cons_zero, List.getElem_cons_succ, List.setIfInBounds_toArray, List.set_cons_zero, List.set_cons_succ])
        refine wpAnyIn_ready (rs := [0]) (by kernel_rfl) (by simp) ?_
        refine AllReadyIn.cons (o := ({ dst := some 19, op := .load 3 (.tmp 9), type := 3, pos := "law.go:43", after := #[], guard := none } : Go.Oper)) rfl (fun K hK => ?_) AllReadyIn.nil
        go_simp
        refine hK _ _ ?_
        clear hK K
        (try simp only [Act.put, List.getElem_toArray, List.getElem_cons_zero, List.getElem_cons_succ, List.setIfInBounds_toArray, List.set_cons_zero, List.set_cons_succ])
        refine wpAnyIn_ready (rs := [3]) (by kernel_rfl) (by simp) ?_
        refine AllReadyIn.cons (o := ({ dst := some 22, op := .binOp .geq 3 (.tmp 19) (.tmp 21) 3, type := 4, pos := "law.go:43", after := #[⟨0, .data⟩, ⟨2, .data⟩], guard := none } : Go.Oper)) rfl (fun K hK => ?_) AllReadyIn.nil
        go_simp
        refine hK _ _ ?_
        clear hK K
        (try simp only [Act.put, List.getElem_toArray, List.getElem_cons_zero, List.getElem_cons_succ, List.setIfInBounds_toArray, List.set_cons_zero, List.set_cons_succ])
        refine wpAnyIn_ready (rs := [4]) (by kernel_rfl) (by simp) ?_
        refine AllReadyIn.cons (o := ({ dst := some 23, op := .move (.tmp 22), type := 4, pos := "law.go:43", after := #[⟨3, .data⟩], guard := none } : Go.Oper)) rfl (fun K hK => ?_) AllReadyIn.nil
        go_simp
        refine hK _ _ ?_
        clear hK K
        (try simp only [Act.put, List.getElem_toArray, List.getElem_cons_zero, List.getElem_cons_succ, List.setIfInBounds_toArray, List.set_cons_zero, List.set_cons_succ])
        refine wpAnyIn_ready (rs := [5, 6, 7]) (by kernel_rfl) (by simp) ?_
        refine AllReadyIn.cons (o := ({ dst := some 24, op := .load 25 (.tmp 11), type := 25, pos := "law.go:43", after := #[⟨4, .guard⟩], guard := some (4, false) } : Go.Oper)) rfl (fun K hK => ?one21) ?more21
        case' one21 =>
          go_simp
          refine hK _ _ ?_
          clear hK K
          (try simp only [Act.put, List.getElem_toArray, List.getElem_cons_zero, List.getElem_cons_succ, List.setIfInBounds_toArray, List.set_cons_zero, List.set_cons_succ])
          refine wpAnyIn_ready (rs := [6, 7]) (by kernel_rfl) (by simp) ?_
          refine AllReadyIn.cons (o := ({ dst := some 25, op := .load 42 (.tmp 6), type := 42, pos := "law.go:43", after := #[⟨4, .guard⟩], guard := some (4, false) } : Go.Oper)) rfl (fun K hK => ?one22) ?more22
          case' one22 =>
            go_simp
            refine hK _ _ ?_
            clear hK K
            (try simp only [Act.put, List.getElem_toArray, List.getElem_cons_zero, List.getElem_cons_succ, List.setIfInBounds_toArray, List.set_cons_zero, List.set_cons_succ])
            refine wpAnyIn_ready (rs := [7]) (by kernel_rfl) (by simp) ?_
            refine AllReadyIn.cons (o := ({ dst := some 26, op := .load 3 (.tmp 9), type := 3, pos := "law.go:43", after := #[⟨4, .guard⟩], guard := some (4, false) } : Go.Oper)) rfl (fun K hK => ?_) AllReadyIn.nil
            go_simp
            refine hK _ _ ?_
            clear hK K
            (try simp only [Act.put, List.getElem_toArray, List.getElem_cons_zero, List.getElem_cons_succ, List.setIfInBounds_toArray, List.set_cons_zero, List.set_cons_succ])
            refine wpAnyIn_ready (rs := [8]) (by kernel_rfl) (by simp) ?_
            refine AllReadyIn.cons (o := ({ dst := some 27, op := .indexAddr 42 (.tmp 25) (.tmp 26), type := 0, pos := "law.go:43", after := #[⟨6, .data⟩, ⟨7, .data⟩, ⟨4, .guard⟩], guard := some (4, false) } : Go.Oper)) rfl (fun K hK => ?_) AllReadyIn.nil
            go_simp
            refine hK _ _ ?_
            clear hK K
            (try simp only [Act.put, List.getElem_toArray, List.getElem_cons_zero, List.getElem_cons_succ, List.setIfInBounds_toArray, List.set_cons_zero, List.set_cons_succ])
            refine wpAnyIn_ready (rs := [9]) (by kernel_rfl) (by simp) ?_
            refine AllReadyIn.cons (o := ({ dst := some 28, op := .load 25 (.tmp 27), type := 25, pos := "law.go:43", after := #[⟨8, .data⟩, ⟨4, .guard⟩], guard := some (4, false) } : Go.Oper)) rfl (fun K hK => ?_) AllReadyIn.nil
            go_simp
            refine hK _ _ ?_
            clear hK K
            (try simp only [Act.put, List.getElem_toArray, List.getElem_cons_zero, List.getElem_cons_succ, List.setIfInBounds_toArray, List.set_cons_zero, List.set_cons_succ])
            refine wpAnyIn_ready (rs := [10]) (by kernel_rfl) (by simp) ?_
            refine AllReadyIn.cons (o := ({ dst := some 29, op := .call { callee := .value (.func 23), args := #[.tmp 24, .tmp 28], argTypes := #[25, 25] }, type := 4, pos := "law.go:43", after := #[⟨5, .data⟩, ⟨9, .data⟩, ⟨4, .chain⟩, ⟨4, .guard⟩], guard := some (4, false) } : Go.Oper)) rfl (fun K hK => ?_) AllReadyIn.nil
            go_simp
            refine ⟨trivial, fun h => (by simp [Fence.wide] at h), ?_⟩; refine (CallsIn.inRound _ (callsIn_wide.2 (rsame_self _ _ y _ (HE2.out.ext (by with_reducible (repeat (first | exact Ext.rfl_ _ | assumption | refine Ext.drew ?_ | refine Ext.drewN ?_ _ | refine Ext.alloc ?_ _ | refine Ext.trans ?_ (by assumption))))) ((HY.out.ext H2.out.ext).ext (by with_reducible (repeat (first | exact Ext.rfl_ _ | assumption | refine Ext.drew ?_ | refine Ext.drewN ?_ _ | refine Ext.alloc ?_ _ | refine Ext.trans ?_ (by assumption)))))))).mono ?_; rintro e w3 ⟨rfl, hw3⟩
            refine hK _ _ ?_
            clear hK K
            (try simp only [Act.put, List.getElem_toArray, List.getElem_cons_zero, List.getElem_cons_succ, List.setIfInBounds_toArray, List.set_cons_zero, List.set_cons_succ])
            refine wpAnyIn_ready (rs := [11]) (by kernel_rfl) (by simp) ?_
            refine AllReadyIn.cons (o := ({ dst := some 30, op := .unOp .not 4 (.tmp 29), type := 4, pos := "law.go:43", after := #[⟨10, .data⟩, ⟨4, .guard⟩], guard := some (4, false) } : Go.Oper)) rfl (fun K hK => ?_) AllReadyIn.nil
            go_simp
            refine hK _ _ ?_
            clear hK K
            (try simp only [Act.put, List.getElem_toArray, List.getElem_cons_zero, List.getElem_cons_succ, List.setIfInBounds_toArray, List.set_cons_zero, List.set_cons_succ])
            refine wpAnyIn_ready (rs := [12]) (by kernel_rfl) (by simp) ?_
            refine AllReadyIn.cons (o := ({ dst := some 31, op := .pick (.tmp 23) (.const (.bool true)) (.tmp 30), type := 4, pos := "law.go:43", after := #[⟨4, .data⟩, ⟨11, .data⟩], guard := none } : Go.Oper)) rfl (fun K hK => ?_) AllReadyIn.nil
            go_simp
            refine hK _ _ ?_
            clear hK K
            (try simp only [Act.put, List.getElem_toArray, List.getElem_cons_zero, List.getElem_cons_succ, List.setIfInBounds_toArray, List.set_cons_zero, List.set_cons_succ])
            refine wpAnyIn_done (by kernel_rfl) ?_ _
          case' more22 =>
            refine AllReadyIn.cons (o := ({ dst := some 26, op := .load 3 (.tmp 9), type := 3, pos := "law.go:43", after := #[⟨4, .guard⟩], guard := some (4, false) } : Go.Oper)) rfl (fun K hK => ?_) AllReadyIn.nil
            go_simp
            refine hK _ _ ?_
            clear hK K
            (try simp only [Act.put, List.getElem_toArray, List.getElem_cons_zero, List.getElem_cons_succ, List.setIfInBounds_toArray, List.set_cons_zero, List.set_cons_succ])
            refine wpAnyIn_ready (rs := [6]) (by kernel_rfl) (by simp) ?_
            refine AllReadyIn.cons (o := ({ dst := some 25, op := .load 42 (.tmp 6), type := 42, pos := "law.go:43", after := #[⟨4, .guard⟩], guard := some (4, false) } : Go.Oper)) rfl (fun K hK => ?_) AllReadyIn.nil
            go_simp
            refine hK _ _ ?_
            clear hK K
            (try simp only [Act.put, List.getElem_toArray, List.getElem_cons_zero, List.getElem_cons_succ, List.setIfInBounds_toArray, List.set_cons_zero, List.set_cons_succ])
            refine wpAnyIn_ready (rs := [8]) (by kernel_rfl) (by simp) ?_
            refine AllReadyIn.cons (o := ({ dst := some 27, op := .indexAddr 42 (.tmp 25) (.tmp 26), type := 0, pos := "law.go:43", after := #[⟨6, .data⟩, ⟨7, .data⟩, ⟨4, .guard⟩], guard := some (4, false) } : Go.Oper)) rfl (fun K hK => ?_) AllReadyIn.nil
            go_simp
            refine hK _ _ ?_
            clear hK K
            (try simp only [Act.put, List.getElem_toArray, List.getElem_cons_zero, List.getElem_cons_succ, List.setIfInBounds_toArray, List.set_cons_zero, List.set_cons_succ])
            refine wpAnyIn_ready (rs := [9]) (by kernel_rfl) (by simp) ?_
            refine AllReadyIn.cons (o := ({ dst := some 28, op := .load 25 (.tmp 27), type := 25, pos := "law.go:43", after := #[⟨8, .data⟩, ⟨4, .guard⟩], guard := some (4, false) } : Go.Oper)) rfl (fun K hK => ?_) AllReadyIn.nil
            go_simp
            refine hK _ _ ?_
            clear hK K
            (try simp only [Act.put, List.getElem_toArray, List.getElem_cons_zero, List.getElem_cons_succ, List.setIfInBounds_toArray, List.set_cons_zero, List.set_cons_succ])
            refine wpAnyIn_ready (rs := [10]) (by kernel_rfl) (by simp) ?_
            refine AllReadyIn.cons (o := ({ dst := some 29, op := .call { callee := .value (.func 23), args := #[.tmp 24, .tmp 28], argTypes := #[25, 25] }, type := 4, pos := "law.go:43", after := #[⟨5, .data⟩, ⟨9, .data⟩, ⟨4, .chain⟩, ⟨4, .guard⟩], guard := some (4, false) } : Go.Oper)) rfl (fun K hK => ?_) AllReadyIn.nil
            go_simp
            refine ⟨trivial, fun h => (by simp [Fence.wide] at h), ?_⟩; refine (CallsIn.inRound _ (callsIn_wide.2 (rsame_self _ _ y _ (HE2.out.ext (by with_reducible (repeat (first | exact Ext.rfl_ _ | assumption | refine Ext.drew ?_ | refine Ext.drewN ?_ _ | refine Ext.alloc ?_ _ | refine Ext.trans ?_ (by assumption))))) ((HY.out.ext H2.out.ext).ext (by with_reducible (repeat (first | exact Ext.rfl_ _ | assumption | refine Ext.drew ?_ | refine Ext.drewN ?_ _ | refine Ext.alloc ?_ _ | refine Ext.trans ?_ (by assumption)))))))).mono ?_; rintro e w3 ⟨rfl, hw3⟩
            refine hK _ _ ?_
            clear hK K
            (try simp only [Act.put, List.getElem_toArray, List.getElem_cons_zero, List.getElem_cons_succ, List.setIfInBounds_toArray, List.set_cons_zero, List.set_cons_succ])
            refine wpAnyIn_ready (rs := [11]) (by kernel_rfl) (by simp) ?_
            refine AllReadyIn.cons (o := ({ dst := some 30, op := .unOp .not 4 (.tmp 29), type := 4, pos := "law.go:43", after := #[⟨10, .data⟩, ⟨4, .guard⟩], guard := some (4, false) } : Go.Oper)) rfl (fun K hK => ?_) AllReadyIn.nil
            go_simp
            refine hK _ _ ?_
            clear hK K
            (try simp only [Act.put, List.getElem_toArray, List.getElem_cons_zero, List.getElem_cons_succ, List.setIfInBounds_toArray, List.set_cons_zero, List.set_cons_succ])
            refine wpAnyIn_ready (rs := [12]) (by kernel_rfl) (by simp) ?_
            refine AllReadyIn.cons (o := ({ dst := some 31, op := .pick (.tmp 23) (.const (.bool true)) (.tmp 30), type := 4, pos := "law.go:43", after := #[⟨4, .data⟩, ⟨11, .data⟩], guard := none } : Go.Oper)) rfl (fun K hK => ?_) AllReadyIn.nil
            go_simp
            refine hK _ _ ?_
            clear hK K
            (try simp only [Act.put, List.getElem_toArray, List.getElem_cons_zero, List.getElem_cons_succ, List.setIfInBounds_toArray, List.set_cons_zero, List.set_cons_succ])
            refine wpAnyIn_done (by kernel_rfl) ?_ _
        case' more21 =>
          refine AllReadyIn.cons (o := ({ dst := some 25, op := .load 42 (.tmp 6), type := 42, pos := "law.go:43", after := #[⟨4, .guard⟩], guard := some (4, false) } : Go.Oper)) rfl (fun K hK => ?one23) ?more23
          case' one23 =>
            go_simp
            refine hK _ _ ?_
            clear hK K
            (try simp only [Act.put, List.getElem_toArray, List.getElem_cons_zero, List.getElem_cons_succ, List.setIfInBounds_toArray, List.set_cons_zero, List.set_cons_succ])
            refine wpAnyIn_ready (rs := [5, 7]) (by kernel_rfl) (by simp) ?_
            refine AllReadyIn.cons (o := ({ dst := some 24, op := .load 25 (.tmp 11), type := 25, pos := "law.go:43", after := #[⟨4, .guard⟩], guard := some (4, false) } : Go.Oper)) rfl (fun K hK => ?one24) ?more24
            case' one24 =>
              go_simp
              refine hK _ _ ?_
              clear hK K
              (try simp only [Act.put, List.getElem_toArray, List.getElem_cons_zero, List.getElem_cons_succ, List.setIfInBounds_toArray, List.set_cons_zero, List.set_cons_succ])
              refine wpAnyIn_ready (rs := [7]) (by kernel_rfl) (by simp) ?_
              refine AllReadyIn.cons (o := ({ dst := some 26, op := .load 3 (.tmp 9), type := 3, pos := "law.go:43", after := #[⟨4, .guard⟩], guard := some (4, false) } : Go.Oper)) rfl (fun K hK => ?_) AllReadyIn.nil
              go_simp
              refine hK _ _ ?_
              clear hK K
              (try simp only [Act.put, List.getElem_toArray, List.getElem_cons_zero, List.getElem_cons_succ, List.setIfInBounds_toArray, List.set_cons_zero, List.set_cons_succ])
              refine wpAnyIn_ready (rs := [8]) (by kernel_rfl) (by simp) ?_
              refine AllReadyIn.cons (o := ({ dst := some 27, op := .indexAddr 42 (.tmp 25) (.tmp 26), type := 0, pos := "law.go:43", after := #[⟨6, .data⟩, ⟨7, .data⟩, ⟨4, .guard⟩], guard := some (4, false) } : Go.Oper)) rfl (fun K hK => ?_) AllReadyIn.nil
              go_simp
              refine hK _ _ ?_
              clear hK K
              (try simp only [Act.put, List.getElem_toArray, List.getElem_cons_zero, List.getElem_cons_succ, List.setIfInBounds_toArray, List.set_cons_zero, List.set_cons_succ])
              refine wpAnyIn_ready (rs := [9]) (by kernel_rfl) (by simp) ?_
              refine AllReadyIn.cons (o := ({ dst := some 28, op := .load 25 (.tmp 27), type := 25, pos := "law.go:43", after := #[⟨8, .data⟩, ⟨4, .guard⟩], guard := some (4, false) } : Go.Oper)) rfl (fun K hK => ?_) AllReadyIn.nil
              go_simp
              refine hK _ _ ?_
              clear hK K
              (try simp only [Act.put, List.getElem_toArray, List.getElem_cons_zero, List.getElem_cons_succ, List.setIfInBounds_toArray, List.set_cons_zero, List.set_cons_succ])
              refine wpAnyIn_ready (rs := [10]) (by kernel_rfl) (by simp) ?_
              refine AllReadyIn.cons (o := ({ dst := some 29, op := .call { callee := .value (.func 23), args := #[.tmp 24, .tmp 28], argTypes := #[25, 25] }, type := 4, pos := "law.go:43", after := #[⟨5, .data⟩, ⟨9, .data⟩, ⟨4, .chain⟩, ⟨4, .guard⟩], guard := some (4, false) } : Go.Oper)) rfl (fun K hK => ?_) AllReadyIn.nil
              go_simp
              refine ⟨trivial, fun h => (by simp [Fence.wide] at h), ?_⟩; refine (CallsIn.inRound _ (callsIn_wide.2 (rsame_self _ _ y _ (HE2.out.ext (by with_reducible (repeat (first | exact Ext.rfl_ _ | assumption | refine Ext.drew ?_ | refine Ext.drewN ?_ _ | refine Ext.alloc ?_ _ | refine Ext.trans ?_ (by assumption))))) ((HY.out.ext H2.out.ext).ext (by with_reducible (repeat (first | exact Ext.rfl_ _ | assumption | refine Ext.drew ?_ | refine Ext.drewN ?_ _ | refine Ext.alloc ?_ _ | refine Ext.trans ?_ (by assumption)))))))).mono ?_; rintro e w3 ⟨rfl, hw3⟩
              refine hK _ _ ?_
              clear hK K
              (try simp only [Act.put, List.getElem_toArray, List.getElem_cons_zero, List.getElem_cons_succ, List.setIfInBounds_toArray, List.set_cons_zero, List.set_cons_succ])
              refine wpAnyIn_ready (rs := [11]) (by kernel_rfl) (by simp) ?_
              refine AllReadyIn.cons (o := ({ dst := some 30, op := .unOp .not 4 (.tmp 29), type := 4, pos := "law.go:43", after := #[⟨10, .data⟩, ⟨4, .guard⟩], guard := some (4, false) } : Go.Oper)) rfl (fun K hK => ?_) AllReadyIn.nil
              go_simp
              refine hK _ _ ?_
              clear hK K
              (try simp only [Act.put, List.getElem_toArray, List.getElem_cons_zero, List.getElem_cons_succ, List.setIfInBounds_toArray, List.set_cons_zero, List.set_cons_succ])
              refine wpAnyIn_ready (rs := [12]) (by kernel_rfl) (by simp) ?_
              refine AllReadyIn.cons (o := ({ dst := some 31, op := .pick (.tmp 23) (.const (.bool true)) (.tmp 30), type := 4, pos := "law.go:43", after := #[⟨4, .data⟩, ⟨11, .data⟩], guard := none } : Go.Oper)) rfl (fun K hK => ?_) AllReadyIn.nil
              go_simp
              refine hK _ _ ?_
              clear hK K
              (try simp only [Act.put, List.getElem_toArray, List.getElem_cons_zero, List.getElem_cons_succ, List.setIfInBounds_toArray, List.set_cons_zero, List.set_cons_succ])
              refine wpAnyIn_done (by kernel_rfl) ?_ _
            case' more24 =>
              refine AllReadyIn.cons (o := ({ dst := some 26, op := .load 3 (.tmp 9), type := 3, pos := "law.go:43", after := #[⟨4, .guard⟩], guard := some (4, false) } : Go.Oper)) rfl (fun K hK => ?_) AllReadyIn.nil
              go_simp
              refine hK _ _ ?_
              clear hK K
              (try simp only [Act.put, List.getElem_toArray, List.getElem_cons_zero, List.getElem_cons_succ, List.setIfInBounds_toArray, List.set_cons_zero, List.set_cons_succ])
              refine wpAnyIn_ready (rs := [5, 8]) (by kernel_rfl) (by simp) ?_
              refine AllReadyIn.cons (o := ({ dst := some 24, op := .load 25 (.tmp 11), type := 25, pos := "law.go:43", after := #[⟨4, .guard⟩], guard := some (4, false) } : Go.Oper)) rfl (fun K hK => ?one25) ?more25
              case' one25 =>
                go_simp
                refine hK _ _ ?_
                clear hK K
                (try simp only [Act.put, List.getElem_toArray, List.getElem_cons_zero, List.getElem_cons_succ, List.setIfInBounds_toArray, List.set_cons_zero, List.set_cons_succ])
                refine wpAnyIn_ready (rs := [8]) (by kernel_rfl) (by simp) ?_
                refine AllReadyIn.cons (o := ({ dst := some 27, op := .indexAddr 42 (.tmp 25) (.tmp 26), type := 0, pos := "law.go:43", after := #[⟨6, .data⟩, ⟨7, .data⟩, ⟨4, .guard⟩], guard := some (4, false) } : Go.Oper)) rfl (fun K hK => ?_) AllReadyIn.nil
                go_simp
                refine hK _ _ ?_
                clear hK K
                (try simp only [Act.put, List.getElem_toArray, List.getElem_cons_zero, List.getElem_cons_succ, List.setIfInBounds_toArray, List.set_cons_zero, List.set_cons_succ])
                refine wpAnyIn_ready (rs := [9]) (by kernel_rfl) (by simp) ?_
                refine AllReadyIn.cons (o := ({ dst := some 28, op := .load 25 (.tmp 27), type := 25, pos := "law.go:43", after := #[⟨8, .data⟩, ⟨4, .guard⟩], guard := some (4, false) } : Go.Oper)) rfl (fun K hK => ?_) AllReadyIn.nil
                go_simp
                refine hK _ _ ?_
                clear hK K
                (try simp only [Act.put, List.getElem_toArray, List.getElem_cons_zero, List.getElem_cons_succ, List.setIfInBounds_toArray, List.set_cons_zero, List.set_cons_succ])
                refine wpAnyIn_ready (rs := [10]) (by kernel_rfl) (by simp) ?_
                refine AllReadyIn.cons (o := ({ dst := some 29, op := .call { callee := .value (.func 23), args := #[.tmp 24, .tmp 28], argTypes := #[25, 25] }, type := 4, pos := "law.go:43", after := #[⟨5, .data⟩, ⟨9, .data⟩, ⟨4, .chain⟩, ⟨4, .guard⟩], guard := some (4, false) } : Go.Oper)) rfl (fun K hK => ?_) AllReadyIn.nil
                go_simp
                refine ⟨trivial, fun h => (by simp [Fence.wide] at h), ?_⟩; refine (CallsIn.inRound _ (callsIn_wide.2 (rsame_self _ _ y _ (HE2.out.ext (by with_reducible (repeat (first | exact Ext.rfl_ _ | assumption | refine Ext.drew ?_ | refine Ext.drewN ?_ _ | refine Ext.alloc ?_ _ | refine Ext.trans ?_ (by assumption))))) ((HY.out.ext H2.out.ext).ext (by with_reducible (repeat (first | exact Ext.rfl_ _ | assumption | refine Ext.drew ?_ | refine Ext.drewN ?_ _ | refine Ext.alloc ?_ _ | refine Ext.trans ?_ (by assumption)))))))).mono ?_; rintro e w3 ⟨rfl, hw3⟩
                refine hK _ _ ?_
                clear hK K
                (try simp only [Act.put, List.getElem_toArray, List.getElem_cons_zero, List.getElem_cons_succ, List.setIfInBounds_toArray, List.set_cons_zero, List.set_cons_succ])
                refine wpAnyIn_ready (rs := [11]) (by kernel_rfl) (by simp) ?_
                refine AllReadyIn.cons (o := ({ dst := some 30, op := .unOp .not 4 (.tmp 29), type := 4, pos := "law.go:43", after := #[⟨10, .data⟩, ⟨4, .guard⟩], guard := some (4, false) } : Go.Oper)) rfl (fun K hK => ?_) AllReadyIn.nil
                go_simp
                refine hK _ _ ?_
                clear hK K
                (try simp only [Act.put, List.getElem_toArray, List.getElem_cons_zero, List.getElem_cons_succ, List.setIfInBounds_toArray, List.set_cons_zero, List.set_cons_succ])
                refine wpAnyIn_ready (rs := [12]) (by kernel_rfl) (by simp) ?_
                refine AllReadyIn.cons (o := ({ dst := some 31, op := .pick (.tmp 23) (.const (.bool true)) (.tmp 30), type := 4, pos := "law.go:43", after := #[⟨4, .data⟩, ⟨11, .data⟩], guard := none } : Go.Oper)) rfl (fun K hK => ?_) AllReadyIn.nil
                go_simp
                refine hK _ _ ?_
                clear hK K
                (try simp only [Act.put, List.getElem_toArray, List.getElem_cons_zero, List.getElem_cons_succ, List.setIfInBounds_toArray, List.set_cons_zero, List.set_cons_succ])
                refine wpAnyIn_done (by kernel_rfl) ?_ _
              case' more25 =>
                refine AllReadyIn.cons (o := ({ dst := some 27, op := .indexAddr 42 (.tmp 25) (.tmp 26), type := 0, pos := "law.go:43", after := #[⟨6, .data⟩, ⟨7, .data⟩, ⟨4, .guard⟩], guard := some (4, false) } : Go.Oper)) rfl (fun K hK => ?_) AllReadyIn.nil
                go_simp
                refine hK _ _ ?_
                clear hK K
                (try simp only [Act.put, List.getElem_toArray, List.getElem_cons_zero, List.getElem_cons_succ, List.setIfInBounds_toArray, List.set_cons_zero, List.set_cons_succ])
                refine wpAnyIn_ready (rs := [5, 9]) (by kernel_rfl) (by simp) ?_
                refine AllReadyIn.cons (o := ({ dst := some 24, op := .load 25 (.tmp 11), type := 25, pos := "law.go:43", after := #[⟨4, .guard⟩], guard := some (4, false) } : Go.Oper)) rfl (fun K hK => ?one26) ?more26
                case' one26 =>
                  go_simp
                  refine hK _ _ ?_
                  clear hK K
                  (try simp only [Act.put, List.getElem_toArray, List.getElem_cons_zero, List.getElem_cons_succ, List.setIfInBounds_toArray, List.set_cons_zero, List.set_cons_succ])
                  refine wpAnyIn_ready (rs := [9]) (by kernel_rfl) (by simp) ?_
                  refine AllReadyIn.cons (o := ({ dst := some 28, op := .load 25 (.tmp 27), type := 25, pos := "law.go:43", after := #[⟨8, .data⟩, ⟨4, .guard⟩], guard := some (4, false) } : Go.Oper)) rfl (fun K hK => ?_) AllReadyIn.nil
                  go_simp
                  refine hK _ _ ?_
                  clear hK K
                  (try simp only [Act.put, List.getElem_toArray, List.getElem_cons_zero, List.getElem_cons_succ, List.setIfInBounds_toArray, List.set_cons_zero, List.set_cons_succ])
                  refine wpAnyIn_ready (rs := [10]) (by kernel_rfl) (by simp) ?_
                  refine AllReadyIn.cons (o := ({ dst := some 29, op := .call { callee := .value (.func 23), args := #[.tmp 24, .tmp 28], argTypes := #[25, 25] }, type := 4, pos := "law.go:43", after := #[⟨5, .data⟩, ⟨9, .data⟩, ⟨4, .chain⟩, ⟨4, .guard⟩], guard := some (4, false) } : Go.Oper)) rfl (fun K hK => ?_) AllReadyIn.nil
                  go_simp
                  refine ⟨trivial, fun h => (by simp [Fence.wide] at h), ?_⟩; refine (CallsIn.inRound _ (callsIn_wide.2 (rsame_self _ _ y _ (HE2.out.ext (by with_reducible (repeat (first | exact Ext.rfl_ _ | assumption | refine Ext.drew ?_ | refine Ext.drewN ?_ _ | refine Ext.alloc ?_ _ | refine Ext.trans ?_ (by assumption))))) ((HY.out.ext H2.out.ext).ext (by with_reducible (repeat (first | exact Ext.rfl_ _ | assumption | refine Ext.drew ?_ | refine Ext.drewN ?_ _ | refine Ext.alloc ?_ _ | refine Ext.trans ?_ (by assumption)))))))).mono ?_; rintro e w3 ⟨rfl, hw3⟩
                  refine hK _ _ ?_
                  clear hK K
                  (try simp only [Act.put, List.getElem_toArray, List.getElem_cons_zero, List.getElem_cons_succ, List.setIfInBounds_toArray, List.set_cons_zero, List.set_cons_succ])
                  refine wpAnyIn_ready (rs := [11]) (by kernel_rfl) (by simp) ?_
                  refine AllReadyIn.cons (o := ({ dst := some 30, op := .unOp .not 4 (.tmp 29), type := 4, pos := "law.go:43", after := #[⟨10, .data⟩, ⟨4, .guard⟩], guard := some (4, false) } : Go.Oper)) rfl (fun K hK => ?_) AllReadyIn.nil
                  go_simp
                  refine hK _ _ ?_
                  clear hK K
                  (try simp only [Act.put, List.getElem_toArray, List.getElem_cons_zero, List.getElem_cons_succ, List.setIfInBounds_toArray, List.set_cons_zero, List.set_cons_succ])
                  refine wpAnyIn_ready (rs := [12]) (by kernel_rfl) (by simp) ?_
                  refine AllReadyIn.cons (o := ({ dst := some 31, op := .pick (.tmp 23) (.const (.bool true)) (.tmp 30), type := 4, pos := "law.go:43", after := #[⟨4, .data⟩, ⟨11, .data⟩], guard := none } : Go.Oper)) rfl (fun K hK => ?_) AllReadyIn.nil
                  go_simp
                  refine hK _ _ ?_
                  clear hK K
                  (try simp only [Act.put, List.getElem_toArray, List.getElem_cons_zero, List.getElem_cons_succ, List.setIfInBounds_toArray, List.set_cons_zero, List.set_cons_succ])
                  refine wpAnyIn_done (by kernel_rfl) ?_ _
                case' more26 =>
                  refine AllReadyIn.cons (o := ({ dst := some 28, op := .load 25 (.tmp 27), type := 25, pos := "law.go:43", after := #[⟨8, .data⟩, ⟨4, .guard⟩], guard := some (4, false) } : Go.Oper)) rfl (fun K hK => ?_) AllReadyIn.nil
                  go_simp
                  refine hK _ _ ?_
                  clear hK K
                  (try simp only [Act.put, List.getElem_toArray, List.getElem_cons_zero, List.getElem_cons_succ, List.setIfInBounds_toArray, List.set_cons_zero, List.set_cons_succ])
                  refine wpAnyIn_ready (rs := [5]) (by kernel_rfl) (by simp) ?_
                  refine AllReadyIn.cons (o := ({ dst := some 24, op := .load 25 (.tmp 11), type := 25, pos := "law.go:43", after := #[⟨4, .guard⟩], guard := some (4, false) } : Go.Oper)) rfl (fun K hK => ?_) AllReadyIn.nil
                  go_simp
                  refine hK _ _ ?_
                  clear hK K
                  (try simp only [Act.put, List.getElem_toArray, List.getElem_cons_zero, List.getElem_cons_succ, List.setIfInBounds_toArray, List.set_cons_zero, List.set_cons_succ])
                  refine wpAnyIn_ready (rs := [10]) (by kernel_rfl) (by simp) ?_
                  refine AllReadyIn.cons (o := ({ dst := some 29, op := .call { callee := .value (.func 23), args := #[.tmp 24, .tmp 28], argTypes := #[25, 25] }, type := 4, pos := "law.go:43", after := #[⟨5, .data⟩, ⟨9, .data⟩, ⟨4, .chain⟩, ⟨4, .guard⟩], guard := some (4, false) } : Go.Oper)) rfl (fun K hK => ?_) AllReadyIn.nil
                  go_simp
                  refine ⟨trivial, fun h => (by simp [Fence.wide] at h), ?_⟩; refine (CallsIn.inRound _ (callsIn_wide.2 (rsame_self _ _ y _ (HE2.out.ext (by with_reducible (repeat (first | exact Ext.rfl_ _ | assumption | refine Ext.drew ?_ | refine Ext.drewN ?_ _ | refine Ext.alloc ?_ _ | refine Ext.trans ?_ (by assumption))))) ((HY.out.ext H2.out.ext).ext (by with_reducible (repeat (first | exact Ext.rfl_ _ | assumption | refine Ext.drew ?_ | refine Ext.drewN ?_ _ | refine Ext.alloc ?_ _ | refine Ext.trans ?_ (by assumption)))))))).mono ?_; rintro e w3 ⟨rfl, hw3⟩
                  refine hK _ _ ?_
                  clear hK K
                  (try simp only [Act.put, List.getElem_toArray, List.getElem_cons_zero, List.getElem_cons_succ, List.setIfInBounds_toArray, List.set_cons_zero, List.set_cons_succ])
                  refine wpAnyIn_ready (rs := [11]) (by kernel_rfl) (by simp) ?_
                  refine AllReadyIn.cons (o := ({ dst := some 30, op := .unOp .not 4 (.tmp 29), type := 4, pos := "law.go:43", after := #[⟨10, .data⟩, ⟨4, .guard⟩], guard := some (4, false) } : Go.Oper)) rfl (fun K hK => ?_) AllReadyIn.nil
                  go_simp
                  refine hK _ _ ?_
                  clear hK K
                  (try simp only [Act.put, List.getElem_toArray, List.getElem_cons_zero, List.getElem_cons_succ, List.setIfInBounds_toArray, List.set_cons_zero, List.set_cons_succ])
                  refine wpAnyIn_ready (rs := [12]) (by kernel_rfl) (by simp) ?_
                  refine AllReadyIn.cons (o := ({ dst := some 31, op := .pick (.tmp 23) (.const (.bool true)) (.tmp 30), type := 4, pos := "law.go:43", after := #[⟨4, .data⟩, ⟨11, .data⟩], guard := none } : Go.Oper)) rfl (fun K hK => ?_) AllReadyIn.nil
                  go_simp
                  refine hK _ _ ?_
                  clear hK K
                  (try simp only [Act.put, List.getElem_toArray, List.getElem_cons_zero, List.getElem_cons_succ, List.setIfInBounds_toArray, List.set_cons_zero, List.set_cons_succ])
                  refine wpAnyIn_done (by kernel_rfl) ?_ _
          case' more23 =>
            refine AllReadyIn.cons (o := ({ dst := some 26, op := .load 3 (.tmp 9), type := 3, pos := "law.go:43", after := #[⟨4, .guard⟩], guard := some (4, false) } : Go.Oper)) rfl (fun K hK => ?_) AllReadyIn.nil
            go_simp
            refine hK _ _ ?_
            clear hK K
            (try simp only [Act.put, List.getElem_toArray, List.getElem_cons_zero, List.getElem_cons_succ, List.setIfInBounds_toArray, List.set_cons_zero, List.set_cons_succ])
            refine wpAnyIn_ready (rs := [5, 6]) (by kernel_rfl) (by simp) ?_
            refine AllReadyIn.cons (o := ({ dst := some 24, op := .load 25 (.tmp 11), type := 25, pos := "law.go:43", after := #[⟨4, .guard⟩], guard := some (4, false) } : Go.Oper)) rfl (fun K hK => ?one27) ?more27
            case' one27 =>
              go_simp
              refine hK _ _ ?_
              clear hK K
              (try simp only [Act.put, List.getElem_toArray, List.getElem_cons_zero, List.getElem_cons_succ, List.setIfInBounds_toArray, List.set_cons_zero, List.set_cons_succ])
              refine wpAnyIn_ready (rs := [6]) (by kernel_rfl) (by simp) ?_
              refine AllReadyIn.cons (o := ({ dst := some 25, op := .load 42 (.tmp 6), type := 42, pos := "law.go:43", after := #[⟨4, .guard⟩], guard := some (4, false) } : Go.Oper)) rfl (fun K hK => ?_) AllReadyIn.nil
              go_simp
              refine hK _ _ ?_
              clear hK K
              (try simp only [Act.put, List.getElem_toArray, List.getElem_cons_zero, List.getElem_cons_succ, List.setIfInBounds_toArray, List.set_cons_zero, List.set_cons_succ])
              refine wpAnyIn_ready (rs := [8]) (by kernel_rfl) (by simp) ?_
              refine AllReadyIn.cons (o := ({ dst := some 27, op := .indexAddr 42 (.tmp 25) (.tmp 26), type := 0, pos := "law.go:43", after := #[⟨6, .data⟩, ⟨7, .data⟩, ⟨4, .guard⟩], guard := some (4, false) } : Go.Oper)) rfl (fun K hK => ?_) AllReadyIn.nil
              go_simp
              refine hK _ _ ?_
              clear hK K
              (try simp only [Act.put, List.getElem_toArray, List.getElem_cons_zero, List.getElem_cons_succ, List.setIfInBounds_toArray, List.set_cons_zero, List.set_cons_succ])
              refine wpAnyIn_ready (rs := [9]) (by kernel_rfl) (by simp) ?_
              refine AllReadyIn.cons (o := ({ dst := some 28, op := .load 25 (.tmp 27), type := 25, pos := "law.go:43", after := #[⟨8, .data⟩, ⟨4, .guard⟩], guard := some (4, false) } : Go.Oper)) rfl (fun K hK => ?_) AllReadyIn.nil
              go_simp
              refine hK _ _ ?_
              clear hK K
              (try simp only [Act.put, List.getElem_toArray, List.getElem_cons_zero, List.getElem_cons_succ, List.setIfInBounds_toArray, List.set_cons_zero, List.set_cons_succ])
              refine wpAnyIn_ready (rs := [10]) (by kernel_rfl) (by simp) ?_
              refine AllReadyIn.cons (o := ({ dst := some 29, op := .call { callee := .value (.func 23), args := #[.tmp 24, .tmp 28], argTypes := #[25, 25] }, type := 4, pos := "law.go:43", after := #[⟨5, .data⟩, ⟨9, .data⟩, ⟨4, .chain⟩, ⟨4, .guard⟩], guard := some (4, false) } : Go.Oper)) rfl (fun K hK => ?_) AllReadyIn.nil
              go_simp
              refine ⟨trivial, fun h => (by simp [Fence.wide] at h), ?_⟩; refine (CallsIn.inRound _ (callsIn_wide.2 (rsame_self _ _ y _ (HE2.out.ext (by with_reducible (repeat (first | exact Ext.rfl_ _ | assumption | refine Ext.drew ?_ | refine Ext.drewN ?_ _ | refine Ext.alloc ?_ _ | refine Ext.trans ?_ (by assumption))))) ((HY.out.ext H2.out.ext).ext (by with_reducible (repeat (first | exact Ext.rfl_ _ | assumption | refine Ext.drew ?_ | refine Ext.drewN ?_ _ | refine Ext.alloc ?_ _ | refine Ext.trans ?_ (by assumption)))))))).mono ?_; rintro e w3 ⟨rfl, hw3⟩
              refine hK _ _ ?_
              clear hK K
              (try simp only [Act.put, List.getElem_toArray, List.getElem_cons_zero, List.getElem_cons_succ, List.setIfInBounds_toArray, List.set_cons_zero, List.set_cons_succ])
              refine wpAnyIn_ready (rs := [11]) (by kernel_rfl) (by simp) ?_
              refine AllReadyIn.cons (o := ({ dst := some 30, op := .unOp .not 4 (.tmp 29), type := 4, pos := "law.go:43", after := #[⟨10, .data⟩, ⟨4, .guard⟩], guard := some (4, false) } : Go.Oper)) rfl (fun K hK => ?_) AllReadyIn.nil
              go_simp
              refine hK _ _ ?_
              clear hK K
              (try simp only [Act.put, List.getElem_toArray, List.getElem_cons_zero, List.getElem_cons_succ, List.setIfInBounds_toArray, List.set_cons_zero, List.set_cons_succ])
              refine wpAnyIn_ready (rs := [12]) (by kernel_rfl) (by simp) ?_
              refine AllReadyIn.cons (o := ({ dst := some 31, op := .pick (.tmp 23) (.const (.bool true)) (.tmp 30), type := 4, pos := "law.go:43", after := #[⟨4, .data⟩, ⟨11, .data⟩], guard := none } : Go.Oper)) rfl (fun K hK => ?_) AllReadyIn.nil
              go_simp
              refine hK _ _ ?_
              clear hK K
              (try simp only [Act.put, List.getElem_toArray, List.getElem_cons_zero, List.getElem_cons_succ, List.setIfInBounds_toArray, List.set_cons_zero, List.set_cons_succ])
              refine wpAnyIn_done (by kernel_rfl) ?_ _
            case' more27 =>
              refine AllReadyIn.cons (o := ({ dst := some 25, op := .load 42 (.tmp 6), type := 42, pos := "law.go:43", after := #[⟨4, .guard⟩], guard := some (4, false) } : Go.Oper)) rfl (fun K hK => ?_) AllReadyIn.nil
              go_simp
              refine hK _ _ ?_
              clear hK K
              (try simp only [Act.put, List.getElem_toArray, List.getElem_cons_zero, List.getElem_cons_succ, List.setIfInBounds_toArray, List.set_cons_zero, List.set_cons_succ])
              refine wpAnyIn_ready (rs := [5, 8]) (by kernel_rfl) (by simp) ?_
              refine AllReadyIn.cons (o := ({ dst := some 24, op := .load 25 (.tmp 11), type := 25, pos := "law.go:43", after := #[⟨4, .guard⟩], guard := some (4, false) } : Go.Oper)) rfl (fun K hK => ?one28) ?more28
              case' one28 =>
                go_simp
                refine hK _ _ ?_
                clear hK K
                (try simp only [Act.put, List.getElem_toArray, List.getElem_cons_zero, List.getElem_cons_succ, List.setIfInBounds_toArray, List.set_cons_zero, List.set_cons_succ])
                refine wpAnyIn_ready (rs := [8]) (by kernel_rfl) (by simp) ?_
                refine AllReadyIn.cons (o := ({ dst := some 27, op := .indexAddr 42 (.tmp 25) (.tmp 26), type := 0, pos := "law.go:43", after := #[⟨6, .data⟩, ⟨7, .data⟩, ⟨4, .guard⟩], guard := some (4, false) } : Go.Oper)) rfl (fun K hK => ?_) AllReadyIn.nil
                go_simp
                refine hK _ _ ?_
                clear hK K
                (try simp only [Act.put, List.getElem_toArray, List.getElem_cons_zero, List.getElem_cons_succ, List.setIfInBounds_toArray, List.set_cons_zero, List.set_cons_succ])
                refine wpAnyIn_ready (rs := [9]) (by kernel_rfl) (by simp) ?_
                refine AllReadyIn.cons (o := ({ dst := some 28, op := .load 25 (.tmp 27), type := 25, pos := "law.go:43", after := #[⟨8, .data⟩, ⟨4, .guard⟩], guard := some (4, false) } : Go.Oper)) rfl (fun K hK => ?_) AllReadyIn.nil
                go_simp
                refine hK _ _ ?_
                clear hK K
                (try simp only [Act.put, List.getElem_toArray, List.getElem_cons_zero, List.getElem_cons_succ, List.setIfInBounds_toArray, List.set_cons_zero, List.set_cons_succ])
                refine wpAnyIn_ready (rs := [10]) (by kernel_rfl) (by simp) ?_
                refine AllReadyIn.cons (o := ({ dst := some 29, op := .call { callee := .value (.func 23), args := #[.tmp 24, .tmp 28], argTypes := #[25, 25] }, type := 4, pos := "law.go:43", after := #[⟨5, .data⟩, ⟨9, .data⟩, ⟨4, .chain⟩, ⟨4, .guard⟩], guard := some (4, false) } : Go.Oper)) rfl (fun K hK => ?_) AllReadyIn.nil
                go_simp
                refine ⟨trivial, fun h => (by simp [Fence.wide] at h), ?_⟩; refine (CallsIn.inRound _ (callsIn_wide.2 (rsame_self _ _ y _ (HE2.out.ext (by with_reducible (repeat (first | exact Ext.rfl_ _ | assumption | refine Ext.drew ?_ | refine Ext.drewN ?_ _ | refine Ext.alloc ?_ _ | refine Ext.trans ?_ (by assumption))))) ((HY.out.ext H2.out.ext).ext (by with_reducible (repeat (first | exact Ext.rfl_ _ | assumption | refine Ext.drew ?_ | refine Ext.drewN ?_ _ | refine Ext.alloc ?_ _ | refine Ext.trans ?_ (by assumption)))))))).mono ?_; rintro e w3 ⟨rfl, hw3⟩
                refine hK _ _ ?_
                clear hK K
                (try simp only [Act.put, List.getElem_toArray, List.getElem_cons_zero, List.getElem_cons_succ, List.setIfInBounds_toArray, List.set_cons_zero, List.set_cons_succ])
                refine wpAnyIn_ready (rs := [11]) (by kernel_rfl) (by simp) ?_
                refine AllReadyIn.cons (o := ({ dst := some 30, op := .unOp .not 4 (.tmp 29), type := 4, pos := "law.go:43", after := #[⟨10, .data⟩, ⟨4, .guard⟩], guard := some (4, false) } : Go.Oper)) rfl (fun K hK => ?_) AllReadyIn.nil
                go_simp
                refine hK _ _ ?_
                clear hK K
                (try simp only [Act.put, List.getElem_toArray, List.getElem_cons_zero, List.getElem_cons_succ, List.setIfInBounds_toArray, List.set_cons_zero, List.set_cons_succ])
                refine wpAnyIn_ready (rs := [12]) (by kernel_rfl) (by simp) ?_
                refine AllReadyIn.cons (o := ({ dst := some 31, op := .pick (.tmp 23) (.const (.bool true)) (.tmp 30), type := 4, pos := "law.go:43", after := #[⟨4, .data⟩, ⟨11, .data⟩], guard := none } : Go.Oper)) rfl (fun K hK => ?_) AllReadyIn.nil
                go_simp
                refine hK _ _ ?_
                clear hK K
                (try simp only [Act.put, List.getElem_toArray, List.getElem_cons_zero, List.getElem_cons_succ, List.setIfInBounds_toArray, List.set_cons_zero, List.set_cons_succ])
                refine wpAnyIn_done (by kernel_rfl) ?_ _
              case' more28 =>
                refine AllReadyIn.cons (o := ({ dst := some 27, op := .indexAddr 42 (.tmp 25) (.tmp 26), type := 0, pos := "law.go:43", after := #[⟨6, .data⟩, ⟨7, .data⟩, ⟨4, .guard⟩], guard := some (4, false) } : Go.Oper)) rfl (fun K hK => ?_) AllReadyIn.nil
                go_simp
                refine hK _ _ ?_
                clear hK K
                (try simp only [Act.put, List.getElem_toArray, List.getElem_cons_zero, List.getElem_cons_succ, List.setIfInBounds_toArray, List.set_cons_zero, List.set_cons_succ])
                refine wpAnyIn_ready (rs := [5, 9]) (by kernel_rfl) (by simp) ?_
                refine AllReadyIn.cons (o := ({ dst := some 24, op := .load 25 (.tmp 11), type := 25, pos := "law.go:43", after := #[⟨4, .guard⟩], guard := some (4, false) } : Go.Oper)) rfl (fun K hK => ?one29) ?more29
                case' one29 =>
                  go_simp
                  refine hK _ _ ?_
                  clear hK K
                  (try simp only [Act.put, List.getElem_toArray, List.getElem_cons_zero, List.getElem_cons_succ, List.setIfInBounds_toArray, List.set_cons_zero, List.set_cons_succ])
                  refine wpAnyIn_ready (rs := [9]) (by kernel_rfl) (by simp) ?_
                  refine AllReadyIn.cons (o := ({ dst := some 28, op := .load 25 (.tmp 27), type := 25, pos := "law.go:43", after := #[⟨8, .data⟩, ⟨4, .guard⟩], guard := some (4, false) } : Go.Oper)) rfl (fun K hK => ?_) AllReadyIn.nil
                  go_simp
                  refine hK _ _ ?_
                  clear hK K
                  (try simp only [Act.put, List.getElem_toArray, List.getElem_cons_zero, List.getElem_cons_succ, List.setIfInBounds_toArray, List.set_cons_zero, List.set_cons_succ])
                  refine wpAnyIn_ready (rs := [10]) (by kernel_rfl) (by simp) ?_
                  refine AllReadyIn.cons (o := ({ dst := some 29, op := .call { callee := .value (.func 23), args := #[.tmp 24, .tmp 28], argTypes := #[25, 25] }, type := 4, pos := "law.go:43", after := #[⟨5, .data⟩, ⟨9, .data⟩, ⟨4, .chain⟩, ⟨4, .guard⟩], guard := some (4, false) } : Go.Oper)) rfl (fun K hK => ?_) AllReadyIn.nil
                  go_simp
                  refine ⟨trivial, fun h => (by simp [Fence.wide] at h), ?_⟩; refine (CallsIn.inRound _ (callsIn_wide.2 (rsame_self _ _ y _ (HE2.out.ext (by with_reducible (repeat (first | exact Ext.rfl_ _ | assumption | refine Ext.drew ?_ | refine Ext.drewN ?_ _ | refine Ext.alloc ?_ _ | refine Ext.trans ?_ (by assumption))))) ((HY.out.ext H2.out.ext).ext (by with_reducible (repeat (first | exact Ext.rfl_ _ | assumption | refine Ext.drew ?_ | refine Ext.drewN ?_ _ | refine Ext.alloc ?_ _ | refine Ext.trans ?_ (by assumption)))))))).mono ?_; rintro e w3 ⟨rfl, hw3⟩
                  refine hK _ _ ?_
                  clear hK K
                  (try simp only [Act.put, List.getElem_toArray, List.getElem_cons_zero, List.getElem_cons_succ, List.setIfInBounds_toArray, List.set_cons_zero, List.set_cons_succ])
                  refine wpAnyIn_ready (rs := [11]) (by kernel_rfl) (by simp) ?_
                  refine AllReadyIn.cons (o := ({ dst := some 30, op := .unOp .not 4 (.tmp 29), type := 4, pos := "law.go:43", after := #[⟨10, .data⟩, ⟨4, .guard⟩], guard := some (4, false) } : Go.Oper)) rfl (fun K hK => ?_) AllReadyIn.nil
                  go_simp
                  refine hK _ _ ?_
                  clear hK K
                  (try simp only [Act.put, List.getElem_toArray, List.getElem_cons_zero, List.getElem_cons_succ, List.setIfInBounds_toArray, List.set_cons_zero, List.set_cons_succ])
                  refine wpAnyIn_ready (rs := [12]) (by kernel_rfl) (by simp) ?_
                  refine AllReadyIn.cons (o := ({ dst := some 31, op := .pick (.tmp 23) (.const (.bool true)) (.tmp 30), type := 4, pos := "law.go:43", after := #[⟨4, .data⟩, ⟨11, .data⟩], guard := none } : Go.Oper)) rfl (fun K hK => ?_) AllReadyIn.nil
                  go_simp
                  refine hK _ _ ?_
                  clear hK K
                  (try simp only [Act.put, List.getElem_toArray, List.getElem_cons_zero, List.getElem_cons_succ, List.setIfInBounds_toArray, List.set_cons_zero, List.set_cons_succ])
                  refine wpAnyIn_done (by kernel_rfl) ?_ _
                case' more29 =>
                  refine AllReadyIn.cons (o := ({ dst := some 28, op := .load 25 (.tmp 27), type := 25, pos := "law.go:43", after := #[⟨8, .data⟩, ⟨4, .guard⟩], guard := some (4, false) } : Go.Oper)) rfl (fun K hK => ?_) AllReadyIn.nil
                  go_simp
                  refine hK _ _ ?_
                  clear hK K
                  (try simp only [Act.put, List.getElem_toArray, List.getElem_cons_zero, List.getElem_cons_succ, List.setIfInBounds_toArray, List.set_cons_zero, List.set_cons_succ])
                  refine wpAnyIn_ready (rs := [5]) (by kernel_rfl) (by simp) ?_
                  refine AllReadyIn.cons (o := ({ dst := some 24, op := .load 25 (.tmp 11), type := 25, pos := "law.go:43", after := #[⟨4, .guard⟩], guard := some (4, false) } : Go.Oper)) rfl (fun K hK => ?_) AllReadyIn.nil
                  go_simp
                  refine hK _ _ ?_
                  clear hK K
                  (try simp only [Act.put, List.getElem_toArray, List.getElem_cons_zero, List.getElem_cons_succ, List.setIfInBounds_toArray, List.set_cons_zero, List.set_cons_succ])
                  refine wpAnyIn_ready (rs := [10]) (by kernel_rfl) (by simp) ?_
                  refine AllReadyIn.cons (o := ({ dst := some 29, op := .call { callee := .value (.func 23), args := #[.tmp 24, .tmp 28], argTypes := #[25, 25] }, type := 4, pos := "law.go:43", after := #[⟨5, .data⟩, ⟨9, .data⟩, ⟨4, .chain⟩, ⟨4, .guard⟩], guard := some (4, false) } : Go.Oper)) rfl (fun K hK => ?_) AllReadyIn.nil
                  go_simp
                  refine ⟨trivial, fun h => (by simp [Fence.wide] at h), ?_⟩; refine (CallsIn.inRound _ (callsIn_wide.2 (rsame_self _ _ y _ (HE2.out.ext (by with_reducible (repeat (first | exact Ext.rfl_ _ | assumption | refine Ext.drew ?_ | refine Ext.drewN ?_ _ | refine Ext.alloc ?_ _ | refine Ext.trans ?_ (by assumption))))) ((HY.out.ext H2.out.ext).ext (by with_reducible (repeat (first | exact Ext.rfl_ _ | assumption | refine Ext.drew ?_ | refine Ext.drewN ?_ _ | refine Ext.alloc ?_ _ | refine Ext.trans ?_ (by assumption)))))))).mono ?_; rintro e w3 ⟨rfl, hw3⟩
                  refine hK _ _ ?_
                  clear hK K
                  (try simp only [Act.put, List.getElem_toArray, List.getElem_cons_zero, List.getElem_cons_succ, List.setIfInBounds_toArray, List.set_cons_zero, List.set_cons_succ])
                  refine wpAnyIn_ready (rs := [11]) (by kernel_rfl) (by simp) ?_
                  refine AllReadyIn.cons (o := ({ dst := some 30, op := .unOp .not 4 (.tmp 29), type := 4, pos := "law.go:43", after := #[⟨10, .data⟩, ⟨4, .guard⟩], guard := some (4, false) } : Go.Oper)) rfl (fun K hK => ?_) AllReadyIn.nil
                  go_simp
                  refine hK _ _ ?_
                  clear hK K
                  (try simp only [Act.put, List.getElem_toArray, List.getElem_cons_zero, List.getElem_cons_succ, List.setIfInBounds_toArray, List.set_cons_zero, List.set_cons_succ])
                  refine wpAnyIn_ready (rs := [12]) (by kernel_rfl) (by simp) ?_
                  refine AllReadyIn.cons (o := ({ dst := some 31, op := .pick (.tmp 23) (.const (.bool true)) (.tmp 30), type := 4, pos := "law.go:43", after := #[⟨4, .data⟩, ⟨11, .data⟩], guard := none } : Go.Oper)) rfl (fun K hK => ?_) AllReadyIn.nil
                  go_simp
                  refine hK _ _ ?_
                  clear hK K
                  (try simp only [Act.put, List.getElem_toArray, List.getElem_cons_zero, List.getElem_cons_succ, List.setIfInBounds_toArray, List.set_cons_zero, List.set_cons_succ])
                  refine wpAnyIn_done (by kernel_rfl) ?_ _
    all_goals
      have hx3 : Ext W2 w3 := (by with_reducible (repeat (first | exact Ext.rfl_ _ | assumption | refine Ext.drew ?_ | refine Ext.drewN ?_ _ | refine Ext.alloc ?_ _ | refine Ext.trans ?_ (by assumption))))
      have k3 := H2.out.kept (T' := T) (Kept.of_ext hx3) H2.out.t
      have HX3 := Lib.hid hx3
      obtain ⟨_, j2, ⟨b1, j3⟩, j4, j5, j6, j7, j8, j9⟩ := id k3
      have H3 := Lib.hid k3
      have hwr : IntKind.i64.wrap ((pre.length : Int) + 1) = (pre.length : Int) + 1 := by rw [IntKind.wrap_i64]; omega
      clear i1 i2 i3 i4 i5 i6 r0 r1 r2 r3 e0 e1 e2 e3 k3 hx3 hw3
      by_cases hm : (pre.length : Int) + 1 = most
      · have hm1 : ((pre.length : Int) + 1 == most) = true := by simpa using hm
        clear hm
        gi_wp2
        have q1 : Kept (fun k => k ≠ w.heap.size + 1 + 1 + 1 ∧ k ≠ w.heap.size + 1 + 1) w3 ((w3.setCell ⟨w.heap.size + 1 + 1 + 1, 0, none⟩ (.int .i64 ((pre.length : Int) + 1))).setCell ⟨w.heap.size + 1 + 1, 0, none⟩ (.bool true)) := Kept.setCell (Kept.setCell (Kept.rfl_ _ _) (by simp) _) (by simp) _
        refine ⟨⟨rfl, ?_, ?_, ?_, H2.out.t⟩, ?_⟩
        · exact World.cell?_setCell_same' _ _ _ (by rw [World.cell?_setCell_other _ _ _ _ (fun e => by simp at e), j3]; rfl)
        · exact q1.ext_of j7 (fun k hk => by omega)
        · exact Nat.le_trans j8 q1.size
        · refine (Kept.of_ext HX3.out).trans (q1.mono fun k hk => ?_)
          rcases hk with h | h | h
          · have := j9 k h; omega
          · omega
          · omega
      · have hm1 : ((pre.length : Int) + 1 == most) = false := by simpa using hm
        clear hm
        gi_wp2
        have q2 : Kept (fun k => k ≠ w.heap.size + 1 + 1 + 1) w3 (w3.setCell ⟨w.heap.size + 1 + 1 + 1, 0, none⟩ (.int .i64 ((pre.length : Int) + 1))) := Kept.setCell (Kept.rfl_ _ _) (by simp) _
        have hl1 : ((pre ++ [y]).length : Int) = (pre.length : Int) + 1 := by simp
        refine ⟨⟨q2.cell H3.out.want (by dsimp only; omega), q2.cell j2 (by dsimp only; omega), ⟨b1, q2.cell j3 (by simp)⟩, ?_, ?_, ?_, q2.ext_of j7 (fun k hk => by omega), Nat.le_trans j8 q2.size, j9⟩, ?_⟩
        · rw [q2.frozen (by dsimp only; omega) (by dsimp only; omega)]; exact j4
        · rw [hl1]; exact World.cell?_setCell_same' _ _ _ (by rw [j5]; rfl)
        · rw [World.frozen?_setCell]; exact j6
        · refine (Kept.of_ext HX3.out).trans (q2.mono fun k hk => ?_)
          rcases hk with h | h
          · have := j9 k h; omega
          · intro e; exact h.2 (.inr (by omega))
  · intro T Wd hI hD
    have hlen := hw.1
    obtain ⟨i1, i2, ⟨b0, i3⟩, i4, i5, i6, i7, i8, i9⟩ := hI
    have he : (((latL s [] (ris none xs)).length : Int) == (n' : Int)) = true := by rw [hlen]; simp
    gi_wp2
    have k1 : Kept (fun k => k ≠ w.heap.size + 1 + 1) Wd (Wd.setCell ⟨w.heap.size + 1 + 1, 0, none⟩ (.bool true)) := Kept.setCell (Kept.rfl_ _ _) (by simp) _
    have hD2 := (k1.block _ (Array.getElem?_eq_some_iff.1 hD).1 (by omega)).trans hD
    refine ⟨by simp, .inl ⟨_, _, rfl, run_takeDeferred hD2, ?_⟩⟩
    have c1 : (Wd.setCell ⟨w.heap.size + 1 + 1, 0, none⟩ (.bool true)).cell? ⟨w.heap.size + 1 + 1, 0, none⟩ = some (.bool true) := World.cell?_setCell_same' _ _ _ (by rw [i3]; rfl)
    have k2 := Kept.putObj (fun k => k ≠ W5.heap.size) (Wd.setCell ⟨w.heap.size + 1 + 1, 0, none⟩ (.bool true)) W5.heap.size (.deferred none) (by simp)
    have c2 := k2.cell c1 (by simp; omega)
    refine ⟨.bool true, ?_, rfl, ?_⟩
    · simp [results, Try.f26, go_sem, c2]
    · exact (k1.mono fun k (hk : k < w.heap.size) => by omega).trans (k2.mono fun k hk => by omega) |>.ext_of i7 (fun k hk => hk)
  · rintro code pre T Wd hp ⟨rfl, hI⟩ hD
    gi_wp2
    refine ⟨by simp, .inl ⟨_, _, rfl, run_takeDeferred hD, ?_⟩⟩
    have k2 := Kept.putObj (fun k => k ≠ W5.heap.size) Wd W5.heap.size (.deferred none) (by simp)
    have c2 := k2.cell hI.res (by simp; omega)
    refine ⟨.bool true, ?_, rfl, ?_⟩
    · simp [results, Try.f26, go_sem, c2]
    · exact k2.ext_of hI.ext (fun k hk => by omega)

end Go.Proofs.Ytpohmoakilioiaa
