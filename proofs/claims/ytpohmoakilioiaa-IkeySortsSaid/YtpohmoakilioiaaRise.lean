/- ikey.rising: what its iterator goes over. Conditions: the list reads. -/
import Derived.Test.YtpohmoakilioiaaList
import Derived.Test.YtpohmoakilioiaaIter
namespace Go.Proofs.Ytpohmoakilioiaa
set_option linter.unusedSimpArgs false
set_option linter.unusedVariables false
set_option maxRecDepth 100000
open Go.RowKit
attribute [local go_sem] Oper.semAt_some

/-- The longest beginning that rises (behind p). -/
def ris : Option Ent → List Ent → List Ent
  | _, [] => []
  | p, x :: xs => if behO p x = true then x :: ris (some x) xs else []

theorem ris_take (xs : List Ent) (p : Option Ent) (k : Nat) (hk : k ≤ xs.length) (hb : ∀ j (h : j < k), behO (if j = 0 then p else (xs.take j).getLast?) (xs[j]'(by omega)) = true) :
    ris p xs = xs.take k ++ ris (if k = 0 then p else (xs.take k).getLast?) (xs.drop k) := by
  induction k with
  | zero => simp
  | succ k ih =>
    rw [ih (by omega) (fun j h => hb j (by omega))]
    have h1 : k < xs.length := by omega
    rw [List.drop_eq_getElem_cons h1]
    have h2 := hb k (by omega)
    rw [ris, if_pos h2]
    have h3 : (xs.take (k + 1)).getLast? = some xs[k] := by rw [List.getLast?_eq_getElem?]; simp [List.length_take, Nat.min_eq_left (show k + 1 ≤ xs.length from hk)]
    rw [if_neg (by omega), h3]
    rw [List.take_succ_eq_append_getElem h1, List.append_assoc]
    rfl

theorem ris_go {xs : List Ent} {k : Nat} (hk : k < xs.length) (h : ris none xs = xs.take k ++ ris (xs.take k).getLast? (xs.drop k)) (hb : behO (xs.take k).getLast? xs[k] = true) :
    ris none xs = xs.take (k + 1) ++ ris (xs.take (k + 1)).getLast? (xs.drop (k + 1)) := by
  rw [h, List.drop_eq_getElem_cons hk, ris, if_pos hb]
  have h3 : (xs.take (k + 1)).getLast? = some xs[k] := by rw [List.getLast?_eq_getElem?]; simp [List.length_take, Nat.min_eq_left (show k + 1 ≤ xs.length from hk)]
  rw [h3, List.take_succ_eq_append_getElem hk, List.append_assoc]
  rfl
theorem ris_end {xs : List Ent} {k : Nat} (hk : k < xs.length) (h : ris none xs = xs.take k ++ ris (xs.take k).getLast? (xs.drop k)) (hb : ¬ behO (xs.take k).getLast? xs[k] = true) :
    ris none xs = xs.take k := by
  rw [h, List.drop_eq_getElem_cons hk, ris, if_neg hb, List.append_nil]

set_option maxRecDepth 100000 in
set_option maxHeartbeats 2000000 in
theorem rising1_seq (A : Option Addr) (n c g : Nat) (xs : List Ent) (S : Nat → Prop) (w00 w0 : World) (hl : RdL w00 A n xs) (hnc : n ≤ c) (h0 : Ext w00 w0) (hS : ∀ k, S k → w00.heap.size ≤ k)
    (hg : w0.cell? ⟨g, 0, none⟩ = some (.slice A n c)) (hgS : ¬ S g) :
    SeqT Try.prog 85 #[.pointer (some ⟨g, 0, none⟩)] (OkE w00) S (ris none xs) w0 := by
  intro num l J Jx W hW hJ hJx hY hJ0
  have hxl := hl.1
  have hq := hl.2.1
  unfold B41 at hq
  have hg1 := hW.keeps' hg
  have hgW := cell_lt hg1
  have h0W := h0.trans hW
  refine callsIn_of_wp Try.func85 rfl trivial ?_ rfl
  simp only [Try.ntmps85, List.size_toArray, List.length_cons, List.length_nil, Nat.reduceAdd, Nat.reduceSub, Array.replicate_succ, Array.replicate_zero, List.push_toArray, List.append_toArray, List.nil_append, List.cons_append]
  gi_wp2
  gi_loopw [7] (fun i wr => ∃ k : Nat, k ≤ n ∧ i = .int .i64 k ∧ ris none xs = xs.take k ++ ris (xs.take k).getLast? (xs.drop k) ∧ J (xs.take k) (fun _ => False) wr ∧ Kept (fun j => j < W.heap.size ∧ ¬ S j) W wr)
    (fun i _ => n - (intOf i).toNat)
  case atStart => exact ⟨0, Nat.zero_le _, rfl, by simp, hJ0, Kept.rfl_ _ _⟩
  case round =>
    obtain ⟨k, hk, rfl, hris, hJs, hkp⟩ := hrel
    by_cases hlt : k < n
    · have hzr := hkp.ext_of h0W (fun j hj => ⟨Nat.lt_of_lt_of_le hj h0W.size, fun h => by have := hS j h; omega⟩)
      have hl' := hl.ext hzr
      obtain ⟨b, o, A1, n1, c1, A2, n2, c2, y, rfl, hy, ⟨d0, d1, d2, d3⟩, hry0⟩ := hl.at_ k hlt
      have e0 := hzr.keeps _ _ _ d0
      have e1 := hzr.keeps _ _ _ d1
      have e2 := hzr.keeps _ _ _ d2
      have e3 := hzr.keeps _ _ _ d3
      have hry := hry0.ext hzr
      have HZ := Lib.hid hzr
      have HY0 := Lib.hid hry0
      clear hzr hry0 d0 d1 d2 d3
      have hgr := hkp.cell hg1 ⟨hgW, hgS⟩
      have hlk := hl'.take k hk
      have hkl : k < xs.length := by omega
      have hyk : xs[k] = y := by rw [List.getElem?_eq_getElem hkl] at hy; exact Option.some.inj hy
      have HL := Lib.hid hlk
      have HY := Lib.hid hry
      have hk' : (k : Int) < (n : Int) := by omega
      have hk'' : (k : Int) ≤ (c : Int) := by omega
      have hcn : (n : Int) ≤ (c : Int) := by omega
      have H0 := Lib.hid hris
      have H1 := Lib.hid hyk
      have H2 := Lib.hid hJs
      have H3 := Lib.hid hkp
      have H4 := Lib.hid hl'
      clear hl hl' hry hlk hy hyk hJs hkp hris hg hg1 hW h0W h0 hxl
      have hbx := blk1 wr (.cells #[.slice A1 n1 c1, .int .i64 y.seq, .int .i64 y.kind, .slice A2 n2 c2] 25)
      have hbox := Lib.hid hbx
      have hgr2 := (Ext.alloc (Ext.rfl_ wr) (.cells #[.slice A1 n1 c1, .int .i64 y.seq, .int .i64 y.kind, .slice A2 n2 c2] 25)).keeps _ _ _ hgr
      clear hbx
      gi_wp2
      by_cases hb : behO (xs.take k).getLast? y = true
      · skip
        refine wpIn_region_any (by kernel_rfl) ?_
        (try (change wpAnyIn _ _ _ _ _ _ _ _ _ (World.drew _)))
        refine wpAnyIn_take (i := 1) (oi := ({ dst := some 13, op := .move (.tmp 3), type := 3, pos := "ikey.go:127", after := #[], guard := none } : Go.Oper)) (v := ?v1) rfl rfl (by kernel_rfl) (by kernel_rfl) (by kernel_rfl) (fun _ _ _ h => h) ⟨Or.inl ⟨by rfl, ?hy1⟩, fun _ => rfl⟩ ?rest1
        case hy1 => (intro w; go_simp; (try with_reducible rfl))
        (try simp only [Act.put, List.getElem_toArray, List.getElem_cons_zero, List.getElem_cons_succ, List.setIfInBounds_toArray, List.set_cons_zero, List.set_cons_succ])
        refine wpAnyIn_ready (rs := [0, 3]) (by kernel_rfl) (by simp) ?_
        refine AllReadyIn.cons (o := ({ dst := some 12, op := .load 42 (.tmp 1), type := 42, pos := "ikey.go:127", after := #[], guard := none } : Go.Oper)) rfl (fun K hK => ?one2) ?more2
        case' one2 =>
          go_simp
          refine hK _ _ ?_
          clear hK K
          (try simp only [Act.put, List.getElem_toArray, List.getElem_cons_zero, List.getElem_cons_succ, List.setIfInBounds_toArray, List.set_cons_zero, List.set_cons_succ])
          refine wpAnyIn_take (i := 2) (oi := ({ dst := some 14, op := .slice 42 (.tmp 12) none (some (.tmp 13)) none, type := 42, pos := "ikey.go:127", after := #[⟨0, .data⟩, ⟨1, .data⟩], guard := none } : Go.Oper)) (v := ?v3) rfl rfl (by kernel_rfl) (by kernel_rfl) (by kernel_rfl) (fun _ _ _ h => h) ⟨Or.inl ⟨by rfl, ?hy3⟩, fun _ => rfl⟩ ?rest3
          case hy3 => (intro w; go_simp; (try with_reducible rfl))
          (try simp only [Act.put, List.getElem_toArray, List.getElem_cons_zero, List.getElem_cons_succ, List.setIfInBounds_toArray, List.set_cons_zero, List.set_cons_succ])
          refine wpAnyIn_ready (rs := [3]) (by kernel_rfl) (by simp) ?_
          refine AllReadyIn.cons (o := ({ dst := some 15, op := .load 25 (.tmp 4), type := 25, pos := "ikey.go:127", after := #[], guard := none } : Go.Oper)) rfl (fun K hK => ?_) AllReadyIn.nil
          go_simp
          refine hK _ _ ?_
          clear hK K
          (try simp only [Act.put, List.getElem_toArray, List.getElem_cons_zero, List.getElem_cons_succ, List.setIfInBounds_toArray, List.set_cons_zero, List.set_cons_succ])
          refine wpAnyIn_ready (rs := [4]) (by kernel_rfl) (by simp) ?_
          refine AllReadyIn.cons (o := ({ dst := some 16, op := .call { callee := .value (.func 86), args := #[.tmp 14, .tmp 15], argTypes := #[42, 25] }, type := 4, pos := "ikey.go:127", after := #[⟨2, .data⟩, ⟨3, .data⟩], guard := none } : Go.Oper)) rfl (fun K hK => ?_) AllReadyIn.nil
          go_simp
          refine ⟨trivial, fun h => (by simp [Fence.wide] at h), ?_⟩; refine (callsIn_wide.2 (behind_any _ k c (xs.take k) _ y _ (HL.out.ext (by with_reducible (repeat (first | exact Ext.rfl_ _ | assumption | refine Ext.drew ?_ | refine Ext.drewN ?_ _ | refine Ext.alloc ?_ _ | refine Ext.trans ?_ (by assumption))))) (HY.out.ext (by with_reducible (repeat (first | exact Ext.rfl_ _ | assumption | refine Ext.drew ?_ | refine Ext.drewN ?_ _ | refine Ext.alloc ?_ _ | refine Ext.trans ?_ (by assumption))))))).mono ?_; rintro e w1 ⟨rfl, hw1⟩; obtain ⟨q0, q1, q2, q3, f0, f1, f2, f3⟩ := box4 hbox.out (w' := w1) (by with_reducible (repeat (first | exact Ext.rfl_ _ | assumption | refine Ext.drew ?_ | refine Ext.drewN ?_ _ | refine Ext.alloc ?_ _ | refine Ext.trans ?_ (by assumption))))
          refine hK _ _ ?_
          clear hK K
          (try simp only [Act.put, List.getElem_toArray, List.getElem_cons_zero, List.getElem_cons_succ, List.setIfInBounds_toArray, List.set_cons_zero, List.set_cons_succ])
          refine wpAnyIn_take (i := 5) (oi := ({ dst := some 17, op := .unOp .not 4 (.tmp 16), type := 4, pos := "ikey.go:127", after := #[⟨4, .data⟩], guard := none } : Go.Oper)) (v := ?v4) rfl rfl (by kernel_rfl) (by kernel_rfl) (by kernel_rfl) (fun _ _ _ h => h) ⟨Or.inl ⟨by rfl, ?hy4⟩, fun _ => rfl⟩ ?rest4
          case hy4 => (intro w; go_simp; (try with_reducible rfl))
          (try simp only [Act.put, List.getElem_toArray, List.getElem_cons_zero, List.getElem_cons_succ, List.setIfInBounds_toArray, List.set_cons_zero, List.set_cons_succ])
          refine wpAnyIn_take (i := 6) (oi := ({ dst := some 18, op := .move (.tmp 17), type := 4, pos := "ikey.go:127", after := #[⟨5, .data⟩, ⟨4, .chain⟩], guard := none } : Go.Oper)) (v := ?v5) rfl rfl (by kernel_rfl) (by kernel_rfl) (by kernel_rfl) (fun _ _ _ h => h) ⟨Or.inl ⟨by rfl, ?hy5⟩, fun _ => rfl⟩ ?rest5
          case hy5 => (intro w; go_simp; (try with_reducible rfl))
          (try simp only [Act.put, List.getElem_toArray, List.getElem_cons_zero, List.getElem_cons_succ, List.setIfInBounds_toArray, List.set_cons_zero, List.set_cons_succ])
          refine wpAnyIn_take (i := 7) (oi := ({ dst := some 19, op := .move (.tmp 0), type := 27, pos := "ikey.go:127", after := #[⟨6, .guard⟩], guard := some (6, false) } : Go.Oper)) (v := ?v6) rfl rfl (by kernel_rfl) (by kernel_rfl) (by kernel_rfl) (fun _ _ _ h => h) ⟨Or.inl ⟨by rfl, ?hy6⟩, fun _ => rfl⟩ ?rest6
          case hy6 => (intro w; go_simp; (try with_reducible rfl))
          (try simp only [Act.put, List.getElem_toArray, List.getElem_cons_zero, List.getElem_cons_succ, List.setIfInBounds_toArray, List.set_cons_zero, List.set_cons_succ])
          refine wpAnyIn_ready (rs := [8]) (by kernel_rfl) (by simp) ?_
          refine AllReadyIn.cons (o := ({ dst := some 20, op := .load 25 (.tmp 4), type := 25, pos := "ikey.go:127", after := #[⟨6, .guard⟩], guard := some (6, false) } : Go.Oper)) rfl (fun K hK => ?_) AllReadyIn.nil
          go_simp
          refine hK _ _ ?_
          clear hK K
          (try simp only [Act.put, List.getElem_toArray, List.getElem_cons_zero, List.getElem_cons_succ, List.setIfInBounds_toArray, List.set_cons_zero, List.set_cons_succ])
          refine wpAnyIn_ready (rs := [9]) (by kernel_rfl) (by simp) ?_
          refine AllReadyIn.cons (o := ({ dst := some 21, op := .call { callee := .value (.tmp 19), args := #[.tmp 20], argTypes := #[25] }, type := 4, pos := "ikey.go:127", after := #[⟨7, .data⟩, ⟨8, .data⟩, ⟨6, .chain⟩, ⟨6, .guard⟩], guard := some (6, false) } : Go.Oper)) rfl (fun K hK => ?_) AllReadyIn.nil
          go_simp
          have hx1 : Ext wr w1 := (by with_reducible (repeat (first | exact Ext.rfl_ _ | assumption | refine Ext.drew ?_ | refine Ext.drewN ?_ _ | refine Ext.alloc ?_ _ | refine Ext.trans ?_ (by assumption)))); obtain ⟨fn, tmps, assign, body, hy, hR⟩ := hY (xs.take k) y _ (fun _ => False) w1 (num - 1) (hJ _ _ _ wr w1 H2.out (Kept.of_ext hx1) (fun _ h => h) (fun _ h => .inl h)) (by rw [(ris_go hkl H0.out (by rw [H1.out]; exact hb)), List.take_succ_eq_append_getElem hkl, H1.out]; exact List.prefix_append _ _) ⟨_, rfl, HY0.out, HZ.out.trans hx1⟩ (fun _ h => h.elim) (Nat.le_trans H3.out.size hx1.size); rw [hy]; refine ⟨fun h => (by simp [Fence.wide] at h), ?_⟩; refine hR.mono ?_; rintro e W3 hE; obtain ⟨bb, rfl, hB⟩ : ∃ bb : Bool, e = .returned (.bool bb) ∧ ((bb = true ∧ J (xs.take k ++ [y]) (fun _ => False) W3 ∧ Kept (fun k => False ∨ k < W.heap.size ∧ ¬S k) w1 W3) ∨ (bb = false ∧ Jx (xs.take k ++ [y]) (fun _ => False) W3)) := hE.elim (fun h => ⟨_, h.1, .inl ⟨rfl, h.2⟩⟩) (fun h => ⟨_, h.1, .inr ⟨rfl, h.2.1⟩⟩)
          refine hK _ _ ?_
          clear hK K
          (try simp only [Act.put, List.getElem_toArray, List.getElem_cons_zero, List.getElem_cons_succ, List.setIfInBounds_toArray, List.set_cons_zero, List.set_cons_succ])
          refine wpAnyIn_take (i := 10) (oi := ({ dst := some 22, op := .unOp .not 4 (.tmp 21), type := 4, pos := "ikey.go:127", after := #[⟨9, .data⟩, ⟨6, .guard⟩], guard := some (6, false) } : Go.Oper)) (v := ?v7) rfl rfl (by kernel_rfl) (by kernel_rfl) (by kernel_rfl) (fun _ _ _ h => h) ⟨Or.inl ⟨by rfl, ?hy7⟩, fun _ => rfl⟩ ?rest7
          case hy7 => (intro w; go_simp; (try with_reducible rfl))
          (try simp only [Act.put, List.getElem_toArray, List.getElem_cons_zero, List.getElem_cons_succ, List.setIfInBounds_toArray, List.set_cons_zero, List.set_cons_succ])
          refine wpAnyIn_take (i := 11) (oi := ({ dst := some 23, op := .pick (.tmp 18) (.const (.bool true)) (.tmp 22), type := 4, pos := "ikey.go:127", after := #[⟨6, .data⟩, ⟨10, .data⟩], guard := none } : Go.Oper)) (v := ?v8) rfl rfl (by kernel_rfl) (by kernel_rfl) (by kernel_rfl) (fun _ _ _ h => h) ⟨Or.inl ⟨by rfl, ?hy8⟩, fun _ => rfl⟩ ?rest8
          case hy8 => (intro w; go_simp; (try with_reducible rfl))
          (try simp only [Act.put, List.getElem_toArray, List.getElem_cons_zero, List.getElem_cons_succ, List.setIfInBounds_toArray, List.set_cons_zero, List.set_cons_succ])
          refine wpAnyIn_done (by kernel_rfl) ?_ _
        case' more2 =>
          refine AllReadyIn.cons (o := ({ dst := some 15, op := .load 25 (.tmp 4), type := 25, pos := "ikey.go:127", after := #[], guard := none } : Go.Oper)) rfl (fun K hK => ?_) AllReadyIn.nil
          go_simp
          refine hK _ _ ?_
          clear hK K
          (try simp only [Act.put, List.getElem_toArray, List.getElem_cons_zero, List.getElem_cons_succ, List.setIfInBounds_toArray, List.set_cons_zero, List.set_cons_succ])
          refine wpAnyIn_ready (rs := [0]) (by kernel_rfl) (by simp) ?_
          refine AllReadyIn.cons (o := ({ dst := some 12, op := .load 42 (.tmp 1), type := 42, pos := "ikey.go:127", after := #[], guard := none } : Go.Oper)) rfl (fun K hK => ?_) AllReadyIn.nil
          go_simp
          refine hK _ _ ?_
          clear hK K
          (try simp only [Act.put, List.getElem_toArray, List.getElem_cons_zero, List.getElem_cons_succ, List.setIfInBounds_toArray, List.set_cons_zero, List.set_cons_succ])
          refine wpAnyIn_take (i := 2) (oi := ({ dst := some 14, op := .slice 42 (.tmp 12) none (some (.tmp 13)) none, type := 42, pos := "ikey.go:127", after := #[⟨0, .data⟩, ⟨1, .data⟩], guard := none } : Go.Oper)) (v := ?v9) rfl rfl (by kernel_rfl) (by kernel_rfl) (by kernel_rfl) (fun _ _ _ h => h) ⟨Or.inl ⟨by rfl, ?hy9⟩, fun _ => rfl⟩ ?rest9
          case hy9 => (intro w; go_simp; (try with_reducible rfl))
          (try simp only [Act.put, List.getElem_toArray, List.getElem_cons_zero, List.getElem_cons_succ, List.setIfInBounds_toArray, List.set_cons_zero, List.set_cons_succ])
          refine wpAnyIn_ready (rs := [4]) (by kernel_rfl) (by simp) ?_
          refine AllReadyIn.cons (o := ({ dst := some 16, op := .call { callee := .value (.func 86), args := #[.tmp 14, .tmp 15], argTypes := #[42, 25] }, type := 4, pos := "ikey.go:127", after := #[⟨2, .data⟩, ⟨3, .data⟩], guard := none } : Go.Oper)) rfl (fun K hK => ?_) AllReadyIn.nil
          go_simp
          refine ⟨trivial, fun h => (by simp [Fence.wide] at h), ?_⟩; refine (callsIn_wide.2 (behind_any _ k c (xs.take k) _ y _ (HL.out.ext (by with_reducible (repeat (first | exact Ext.rfl_ _ | assumption | refine Ext.drew ?_ | refine Ext.drewN ?_ _ | refine Ext.alloc ?_ _ | refine Ext.trans ?_ (by assumption))))) (HY.out.ext (by with_reducible (repeat (first | exact Ext.rfl_ _ | assumption | refine Ext.drew ?_ | refine Ext.drewN ?_ _ | refine Ext.alloc ?_ _ | refine Ext.trans ?_ (by assumption))))))).mono ?_; rintro e w1 ⟨rfl, hw1⟩; obtain ⟨q0, q1, q2, q3, f0, f1, f2, f3⟩ := box4 hbox.out (w' := w1) (by with_reducible (repeat (first | exact Ext.rfl_ _ | assumption | refine Ext.drew ?_ | refine Ext.drewN ?_ _ | refine Ext.alloc ?_ _ | refine Ext.trans ?_ (by assumption))))
          refine hK _ _ ?_
          clear hK K
          (try simp only [Act.put, List.getElem_toArray, List.getElem_cons_zero, List.getElem_cons_succ, List.setIfInBounds_toArray, List.set_cons_zero, List.set_cons_succ])
          refine wpAnyIn_take (i := 5) (oi := ({ dst := some 17, op := .unOp .not 4 (.tmp 16), type := 4, pos := "ikey.go:127", after := #[⟨4, .data⟩], guard := none } : Go.Oper)) (v := ?v10) rfl rfl (by kernel_rfl) (by kernel_rfl) (by kernel_rfl) (fun _ _ _ h => h) ⟨Or.inl ⟨by rfl, ?hy10⟩, fun _ => rfl⟩ ?rest10
          case hy10 => (intro w; go_simp; (try with_reducible rfl))
          (try simp only [Act.put, List.getElem_toArray, List.getElem_cons_zero, List.getElem_cons_succ, List.setIfInBounds_toArray, List.set_cons_zero, List.set_cons_succ])
          refine wpAnyIn_take (i := 6) (oi := ({ dst := some 18, op := .move (.tmp 17), type := 4, pos := "ikey.go:127", after := #[⟨5, .data⟩, ⟨4, .chain⟩], guard := none } : Go.Oper)) (v := ?v11) rfl rfl (by kernel_rfl) (by kernel_rfl) (by kernel_rfl) (fun _ _ _ h => h) ⟨Or.inl ⟨by rfl, ?hy11⟩, fun _ => rfl⟩ ?rest11
          case hy11 => (intro w; go_simp; (try with_reducible rfl))
          (try simp only [Act.put, List.getElem_toArray, List.getElem_cons_zero, List.getElem_cons_succ, List.setIfInBounds_toArray, List.set_cons_zero, List.set_cons_succ])
          refine wpAnyIn_take (i := 7) (oi := ({ dst := some 19, op := .move (.tmp 0), type := 27, pos := "ikey.go:127", after := #[⟨6, .guard⟩], guard := some (6, false) } : Go.Oper)) (v := ?v12) rfl rfl (by kernel_rfl) (by kernel_rfl) (by kernel_rfl) (fun _ _ _ h => h) ⟨Or.inl ⟨by rfl, ?hy12⟩, fun _ => rfl⟩ ?rest12
          case hy12 => (intro w; go_simp; (try with_reducible rfl))
          (try simp only [Act.put, List.getElem_toArray, List.getElem_cons_zero, List.getElem_cons_succ, List.setIfInBounds_toArray, List.set_cons_zero, List.set_cons_succ])
          refine wpAnyIn_ready (rs := [8]) (by kernel_rfl) (by simp) ?_
          refine AllReadyIn.cons (o := ({ dst := some 20, op := .load 25 (.tmp 4), type := 25, pos := "ikey.go:127", after := #[⟨6, .guard⟩], guard := some (6, false) } : Go.Oper)) rfl (fun K hK => ?_) AllReadyIn.nil
          go_simp
          refine hK _ _ ?_
          clear hK K
          (try simp only [Act.put, List.getElem_toArray, List.getElem_cons_zero, List.getElem_cons_succ, List.setIfInBounds_toArray, List.set_cons_zero, List.set_cons_succ])
          refine wpAnyIn_ready (rs := [9]) (by kernel_rfl) (by simp) ?_
          refine AllReadyIn.cons (o := ({ dst := some 21, op := .call { callee := .value (.tmp 19), args := #[.tmp 20], argTypes := #[25] }, type := 4, pos := "ikey.go:127", after := #[⟨7, .data⟩, ⟨8, .data⟩, ⟨6, .chain⟩, ⟨6, .guard⟩], guard := some (6, false) } : Go.Oper)) rfl (fun K hK => ?_) AllReadyIn.nil
          go_simp
          have hx1 : Ext wr w1 := (by with_reducible (repeat (first | exact Ext.rfl_ _ | assumption | refine Ext.drew ?_ | refine Ext.drewN ?_ _ | refine Ext.alloc ?_ _ | refine Ext.trans ?_ (by assumption)))); obtain ⟨fn, tmps, assign, body, hy, hR⟩ := hY (xs.take k) y _ (fun _ => False) w1 (num - 1) (hJ _ _ _ wr w1 H2.out (Kept.of_ext hx1) (fun _ h => h) (fun _ h => .inl h)) (by rw [(ris_go hkl H0.out (by rw [H1.out]; exact hb)), List.take_succ_eq_append_getElem hkl, H1.out]; exact List.prefix_append _ _) ⟨_, rfl, HY0.out, HZ.out.trans hx1⟩ (fun _ h => h.elim) (Nat.le_trans H3.out.size hx1.size); rw [hy]; refine ⟨fun h => (by simp [Fence.wide] at h), ?_⟩; refine hR.mono ?_; rintro e W3 hE; obtain ⟨bb, rfl, hB⟩ : ∃ bb : Bool, e = .returned (.bool bb) ∧ ((bb = true ∧ J (xs.take k ++ [y]) (fun _ => False) W3 ∧ Kept (fun k => False ∨ k < W.heap.size ∧ ¬S k) w1 W3) ∨ (bb = false ∧ Jx (xs.take k ++ [y]) (fun _ => False) W3)) := hE.elim (fun h => ⟨_, h.1, .inl ⟨rfl, h.2⟩⟩) (fun h => ⟨_, h.1, .inr ⟨rfl, h.2.1⟩⟩)
          refine hK _ _ ?_
          clear hK K
          (try simp only [Act.put, List.getElem_toArray, List.getElem_cons_zero, List.getElem_cons_succ, List.setIfInBounds_toArray, List.set_cons_zero, List.set_cons_succ])
          refine wpAnyIn_take (i := 10) (oi := ({ dst := some 22, op := .unOp .not 4 (.tmp 21), type := 4, pos := "ikey.go:127", after := #[⟨9, .data⟩, ⟨6, .guard⟩], guard := some (6, false) } : Go.Oper)) (v := ?v13) rfl rfl (by kernel_rfl) (by kernel_rfl) (by kernel_rfl) (fun _ _ _ h => h) ⟨Or.inl ⟨by rfl, ?hy13⟩, fun _ => rfl⟩ ?rest13
          case hy13 => (intro w; go_simp; (try with_reducible rfl))
          (try simp only [Act.put, List.getElem_toArray, List.getElem_cons_zero, List.getElem_cons_succ, List.setIfInBounds_toArray, List.set_cons_zero, List.set_cons_succ])
          refine wpAnyIn_take (i := 11) (oi := ({ dst := some 23, op := .pick (.tmp 18) (.const (.bool true)) (.tmp 22), type := 4, pos := "ikey.go:127", after := #[⟨6, .data⟩, ⟨10, .data⟩], guard := none } : Go.Oper)) (v := ?v14) rfl rfl (by kernel_rfl) (by kernel_rfl) (by kernel_rfl) (fun _ _ _ h => h) ⟨Or.inl ⟨by rfl, ?hy14⟩, fun _ => rfl⟩ ?rest14
          case hy14 => (intro w; go_simp; (try with_reducible rfl))
          (try simp only [Act.put, List.getElem_toArray, List.getElem_cons_zero, List.getElem_cons_succ, List.setIfInBounds_toArray, List.set_cons_zero, List.set_cons_succ])
          refine wpAnyIn_done (by kernel_rfl) ?_ _
        all_goals
          have hpre : xs.take (k + 1) = xs.take k ++ [y] := by rw [List.take_succ_eq_append_getElem hkl, H1.out]
          have hris' := ris_go hkl H0.out (by rw [H1.out]; exact hb)
          have HP := Lib.hid hpre
          have HR := Lib.hid hris'
          clear hpre hris'
          have hkk := H3.out.trans (Kept.of_ext (X := fun j => j < W.heap.size ∧ ¬ S j) (show Ext wr w1 from (by with_reducible (repeat (first | exact Ext.rfl_ _ | assumption | refine Ext.drew ?_ | refine Ext.drewN ?_ _ | refine Ext.alloc ?_ _ | refine Ext.trans ?_ (by assumption))))))
          have HK := Lib.hid hkk
          clear hkk
          rcases hB with ⟨rfl, hJ3, hk3⟩ | ⟨rfl, hJx3⟩
          · have HJ := Lib.hid hJ3
            have HK3 := Lib.hid hk3
            clear hJ3 hk3
            gi_wp2
            go_roundw
            case rel => exact ⟨k + 1, by omega, by simp, HR.out, by rw [HP.out]; exact HJ.out, HK.out.trans (HK3.out.mono fun j hj => .inr hj)⟩
            case measure => simp [intOf]; omega
          · have HJ := Lib.hid hJx3
            clear hJx3
            gi_wp2
            refine bodyPost_ret (results_none rfl _ _ _) rfl ?_
            exact ⟨⟨_, rfl⟩, .inr ⟨xs.take k ++ [y], by rw [HR.out, HP.out]; exact List.prefix_append _ _, fun _ => False, HJ.out⟩⟩
      · have hb' : behO (xs.take k).getLast? y = false := by simpa using hb
        refine wpIn_region_any (by kernel_rfl) ?_
        (try (change wpAnyIn _ _ _ _ _ _ _ _ _ (World.drew _)))
        refine wpAnyIn_take (i := 1) (oi := ({ dst := some 13, op := .move (.tmp 3), type := 3, pos := "ikey.go:127", after := #[], guard := none } : Go.Oper)) (v := ?v15) rfl rfl (by kernel_rfl) (by kernel_rfl) (by kernel_rfl) (fun _ _ _ h => h) ⟨Or.inl ⟨by rfl, ?hy15⟩, fun _ => rfl⟩ ?rest15
        case hy15 => (intro w; go_simp; (try with_reducible rfl))
        (try simp only [Act.put, List.getElem_toArray, List.getElem_cons_zero, List.getElem_cons_succ, List.setIfInBounds_toArray, List.set_cons_zero, List.set_cons_succ])
        refine wpAnyIn_ready (rs := [0, 3]) (by kernel_rfl) (by simp) ?_
        refine AllReadyIn.cons (o := ({ dst := some 12, op := .load 42 (.tmp 1), type := 42, pos := "ikey.go:127", after := #[], guard := none } : Go.Oper)) rfl (fun K hK => ?one16) ?more16
        case' one16 =>
          go_simp
          refine hK _ _ ?_
          clear hK K
          (try simp only [Act.put, List.getElem_toArray, List.getElem_cons_zero, List.getElem_cons_succ, List.setIfInBounds_toArray, List.set_cons_zero, List.set_cons_succ])
          refine wpAnyIn_take (i := 2) (oi := ({ dst := some 14, op := .slice 42 (.tmp 12) none (some (.tmp 13)) none, type := 42, pos := "ikey.go:127", after := #[⟨0, .data⟩, ⟨1, .data⟩], guard := none } : Go.Oper)) (v := ?v17) rfl rfl (by kernel_rfl) (by kernel_rfl) (by kernel_rfl) (fun _ _ _ h => h) ⟨Or.inl ⟨by rfl, ?hy17⟩, fun _ => rfl⟩ ?rest17
          case hy17 => (intro w; go_simp; (try with_reducible rfl))
          (try simp only [Act.put, List.getElem_toArray, List.getElem_cons_zero, List.getElem_cons_succ, List.setIfInBounds_toArray, List.set_cons_zero, List.set_cons_succ])
          refine wpAnyIn_ready (rs := [3]) (by kernel_rfl) (by simp) ?_
          refine AllReadyIn.cons (o := ({ dst := some 15, op := .load 25 (.tmp 4), type := 25, pos := "ikey.go:127", after := #[], guard := none } : Go.Oper)) rfl (fun K hK => ?_) AllReadyIn.nil
          go_simp
          refine hK _ _ ?_
          clear hK K
          (try simp only [Act.put, List.getElem_toArray, List.getElem_cons_zero, List.getElem_cons_succ, List.setIfInBounds_toArray, List.set_cons_zero, List.set_cons_succ])
          refine wpAnyIn_ready (rs := [4]) (by kernel_rfl) (by simp) ?_
          refine AllReadyIn.cons (o := ({ dst := some 16, op := .call { callee := .value (.func 86), args := #[.tmp 14, .tmp 15], argTypes := #[42, 25] }, type := 4, pos := "ikey.go:127", after := #[⟨2, .data⟩, ⟨3, .data⟩], guard := none } : Go.Oper)) rfl (fun K hK => ?_) AllReadyIn.nil
          go_simp
          refine ⟨trivial, fun h => (by simp [Fence.wide] at h), ?_⟩; refine (callsIn_wide.2 (behind_any _ k c (xs.take k) _ y _ (HL.out.ext (by with_reducible (repeat (first | exact Ext.rfl_ _ | assumption | refine Ext.drew ?_ | refine Ext.drewN ?_ _ | refine Ext.alloc ?_ _ | refine Ext.trans ?_ (by assumption))))) (HY.out.ext (by with_reducible (repeat (first | exact Ext.rfl_ _ | assumption | refine Ext.drew ?_ | refine Ext.drewN ?_ _ | refine Ext.alloc ?_ _ | refine Ext.trans ?_ (by assumption))))))).mono ?_; rintro e w1 ⟨rfl, hw1⟩; skip
          refine hK _ _ ?_
          clear hK K
          (try simp only [Act.put, List.getElem_toArray, List.getElem_cons_zero, List.getElem_cons_succ, List.setIfInBounds_toArray, List.set_cons_zero, List.set_cons_succ])
          refine wpAnyIn_take (i := 5) (oi := ({ dst := some 17, op := .unOp .not 4 (.tmp 16), type := 4, pos := "ikey.go:127", after := #[⟨4, .data⟩], guard := none } : Go.Oper)) (v := ?v18) rfl rfl (by kernel_rfl) (by kernel_rfl) (by kernel_rfl) (fun _ _ _ h => h) ⟨Or.inl ⟨by rfl, ?hy18⟩, fun _ => rfl⟩ ?rest18
          case hy18 => (intro w; go_simp; (try with_reducible rfl))
          (try simp only [Act.put, List.getElem_toArray, List.getElem_cons_zero, List.getElem_cons_succ, List.setIfInBounds_toArray, List.set_cons_zero, List.set_cons_succ])
          refine wpAnyIn_take (i := 6) (oi := ({ dst := some 18, op := .move (.tmp 17), type := 4, pos := "ikey.go:127", after := #[⟨5, .data⟩, ⟨4, .chain⟩], guard := none } : Go.Oper)) (v := ?v19) rfl rfl (by kernel_rfl) (by kernel_rfl) (by kernel_rfl) (fun _ _ _ h => h) ⟨Or.inl ⟨by rfl, ?hy19⟩, fun _ => rfl⟩ ?rest19
          case hy19 => (intro w; go_simp; (try with_reducible rfl))
          (try simp only [Act.put, List.getElem_toArray, List.getElem_cons_zero, List.getElem_cons_succ, List.setIfInBounds_toArray, List.set_cons_zero, List.set_cons_succ])
          refine wpAnyIn_take (i := 7) (oi := ({ dst := some 19, op := .move (.tmp 0), type := 27, pos := "ikey.go:127", after := #[⟨6, .guard⟩], guard := some (6, false) } : Go.Oper)) (v := undef) rfl rfl (by kernel_rfl) (by kernel_rfl) (by kernel_rfl) (fun _ _ _ h => h) ⟨Or.inr ⟨by rfl, rfl⟩, fun _ => rfl⟩ ?_
          (try simp only [Act.put, List.getElem_toArray, List.getElem_cons_zero, List.getElem_cons_succ, List.setIfInBounds_toArray, List.set_cons_zero, List.set_cons_succ])
          refine wpAnyIn_take (i := 8) (oi := ({ dst := some 20, op := .load 25 (.tmp 4), type := 25, pos := "ikey.go:127", after := #[⟨6, .guard⟩], guard := some (6, false) } : Go.Oper)) (v := undef) rfl rfl (by kernel_rfl) (by kernel_rfl) (by kernel_rfl) (fun _ _ _ h => h) ⟨Or.inr ⟨by rfl, rfl⟩, fun _ => rfl⟩ ?_
          (try simp only [Act.put, List.getElem_toArray, List.getElem_cons_zero, List.getElem_cons_succ, List.setIfInBounds_toArray, List.set_cons_zero, List.set_cons_succ])
          refine wpAnyIn_ready (rs := [9]) (by kernel_rfl) (by simp) ?_
          refine AllReadyIn.cons (o := ({ dst := some 21, op := .call { callee := .value (.tmp 19), args := #[.tmp 20], argTypes := #[25] }, type := 4, pos := "ikey.go:127", after := #[⟨7, .data⟩, ⟨8, .data⟩, ⟨6, .chain⟩, ⟨6, .guard⟩], guard := some (6, false) } : Go.Oper)) rfl (fun K hK => ?_) AllReadyIn.nil
          go_simp
          (first | refine ⟨fun _ h => (by cases h), ?_⟩ | refine ⟨trivial, ?_⟩ | refine ⟨fun _ _ => trivial, ?_⟩)
          refine hK _ _ ?_
          clear hK K
          (try simp only [Act.put, List.getElem_toArray, List.getElem_cons_zero, List.getElem_cons_succ, List.setIfInBounds_toArray, List.set_cons_zero, List.set_cons_succ])
          refine wpAnyIn_take (i := 10) (oi := ({ dst := some 22, op := .unOp .not 4 (.tmp 21), type := 4, pos := "ikey.go:127", after := #[⟨9, .data⟩, ⟨6, .guard⟩], guard := some (6, false) } : Go.Oper)) (v := undef) rfl rfl (by kernel_rfl) (by kernel_rfl) (by kernel_rfl) (fun _ _ _ h => h) ⟨Or.inr ⟨by rfl, rfl⟩, fun _ => rfl⟩ ?_
          (try simp only [Act.put, List.getElem_toArray, List.getElem_cons_zero, List.getElem_cons_succ, List.setIfInBounds_toArray, List.set_cons_zero, List.set_cons_succ])
          refine wpAnyIn_take (i := 11) (oi := ({ dst := some 23, op := .pick (.tmp 18) (.const (.bool true)) (.tmp 22), type := 4, pos := "ikey.go:127", after := #[⟨6, .data⟩, ⟨10, .data⟩], guard := none } : Go.Oper)) (v := ?v20) rfl rfl (by kernel_rfl) (by kernel_rfl) (by kernel_rfl) (fun _ _ _ h => h) ⟨Or.inl ⟨by rfl, ?hy20⟩, fun _ => rfl⟩ ?rest20
          case hy20 => (intro w; go_simp; (try with_reducible rfl))
          (try simp only [Act.put, List.getElem_toArray, List.getElem_cons_zero, List.getElem_cons_succ, List.setIfInBounds_toArray, List.set_cons_zero, List.set_cons_succ])
          refine wpAnyIn_done (by kernel_rfl) ?_ _
        case' more16 =>
          refine AllReadyIn.cons (o := ({ dst := some 15, op := .load 25 (.tmp 4), type := 25, pos := "ikey.go:127", after := #[], guard := none } : Go.Oper)) rfl (fun K hK => ?_) AllReadyIn.nil
          go_simp
          refine hK _ _ ?_
          clear hK K
          (try simp only [Act.put, List.getElem_toArray, List.getElem_cons_zero, List.getElem_cons_succ, List.setIfInBounds_toArray, List.set_cons_zero, List.set_cons_succ])
          refine wpAnyIn_ready (rs := [0]) (by kernel_rfl) (by simp) ?_
          refine AllReadyIn.cons (o := ({ dst := some 12, op := .load 42 (.tmp 1), type := 42, pos := "ikey.go:127", after := #[], guard := none } : Go.Oper)) rfl (fun K hK => ?_) AllReadyIn.nil
          go_simp
          refine hK _ _ ?_
          clear hK K
          (try simp only [Act.put, List.getElem_toArray, List.getElem_cons_zero, List.getElem_cons_succ, List.setIfInBounds_toArray, List.set_cons_zero, List.set_cons_succ])
          refine wpAnyIn_take (i := 2) (oi := ({ dst := some 14, op := .slice 42 (.tmp 12) none (some (.tmp 13)) none, type := 42, pos := "ikey.go:127", after := #[⟨0, .data⟩, ⟨1, .data⟩], guard := none } : Go.Oper)) (v := ?v21) rfl rfl (by kernel_rfl) (by kernel_rfl) (by kernel_rfl) (fun _ _ _ h => h) ⟨Or.inl ⟨by rfl, ?hy21⟩, fun _ => rfl⟩ ?rest21
          case hy21 => (intro w; go_simp; (try with_reducible rfl))
          (try simp only [Act.put, List.getElem_toArray, List.getElem_cons_zero, List.getElem_cons_succ, List.setIfInBounds_toArray, List.set_cons_zero, List.set_cons_succ])
          refine wpAnyIn_ready (rs := [4]) (by kernel_rfl) (by simp) ?_
          refine AllReadyIn.cons (o := ({ dst := some 16, op := .call { callee := .value (.func 86), args := #[.tmp 14, .tmp 15], argTypes := #[42, 25] }, type := 4, pos := "ikey.go:127", after := #[⟨2, .data⟩, ⟨3, .data⟩], guard := none } : Go.Oper)) rfl (fun K hK => ?_) AllReadyIn.nil
          go_simp
          refine ⟨trivial, fun h => (by simp [Fence.wide] at h), ?_⟩; refine (callsIn_wide.2 (behind_any _ k c (xs.take k) _ y _ (HL.out.ext (by with_reducible (repeat (first | exact Ext.rfl_ _ | assumption | refine Ext.drew ?_ | refine Ext.drewN ?_ _ | refine Ext.alloc ?_ _ | refine Ext.trans ?_ (by assumption))))) (HY.out.ext (by with_reducible (repeat (first | exact Ext.rfl_ _ | assumption | refine Ext.drew ?_ | refine Ext.drewN ?_ _ | refine Ext.alloc ?_ _ | refine Ext.trans ?_ (by assumption))))))).mono ?_; rintro e w1 ⟨rfl, hw1⟩; skip
          refine hK _ _ ?_
          clear hK K
          (try simp only [Act.put, List.getElem_toArray, List.getElem_cons_zero, List.getElem_cons_succ, List.setIfInBounds_toArray, List.set_cons_zero, List.set_cons_succ])
          refine wpAnyIn_take (i := 5) (oi := ({ dst := some 17, op := .unOp .not 4 (.tmp 16), type := 4, pos := "ikey.go:127", after := #[⟨4, .data⟩], guard := none } : Go.Oper)) (v := ?v22) rfl rfl (by kernel_rfl) (by kernel_rfl) (by kernel_rfl) (fun _ _ _ h => h) ⟨Or.inl ⟨by rfl, ?hy22⟩, fun _ => rfl⟩ ?rest22
          case hy22 => (intro w; go_simp; (try with_reducible rfl))
          (try simp only [Act.put, List.getElem_toArray, List.getElem_cons_zero, List.getElem_cons_succ, List.setIfInBounds_toArray, List.set_cons_zero, List.set_cons_succ])
          refine wpAnyIn_take (i := 6) (oi := ({ dst := some 18, op := .move (.tmp 17), type := 4, pos := "ikey.go:127", after := #[⟨5, .data⟩, ⟨4, .chain⟩], guard := none } : Go.Oper)) (v := ?v23) rfl rfl (by kernel_rfl) (by kernel_rfl) (by kernel_rfl) (fun _ _ _ h => h) ⟨Or.inl ⟨by rfl, ?hy23⟩, fun _ => rfl⟩ ?rest23
          case hy23 => (intro w; go_simp; (try with_reducible rfl))
          (try simp only [Act.put, List.getElem_toArray, List.getElem_cons_zero, List.getElem_cons_succ, List.setIfInBounds_toArray, List.set_cons_zero, List.set_cons_succ])
          refine wpAnyIn_take (i := 7) (oi := ({ dst := some 19, op := .move (.tmp 0), type := 27, pos := "ikey.go:127", after := #[⟨6, .guard⟩], guard := some (6, false) } : Go.Oper)) (v := undef) rfl rfl (by kernel_rfl) (by kernel_rfl) (by kernel_rfl) (fun _ _ _ h => h) ⟨Or.inr ⟨by rfl, rfl⟩, fun _ => rfl⟩ ?_
          (try simp only [Act.put, List.getElem_toArray, List.getElem_cons_zero, List.getElem_cons_succ, List.setIfInBounds_toArray, List.set_cons_zero, List.set_cons_succ])
          refine wpAnyIn_take (i := 8) (oi := ({ dst := some 20, op := .load 25 (.tmp 4), type := 25, pos := "ikey.go:127", after := #[⟨6, .guard⟩], guard := some (6, false) } : Go.Oper)) (v := undef) rfl rfl (by kernel_rfl) (by kernel_rfl) (by kernel_rfl) (fun _ _ _ h => h) ⟨Or.inr ⟨by rfl, rfl⟩, fun _ => rfl⟩ ?_
          (try simp only [Act.put, List.getElem_toArray, List.getElem_cons_zero, List.getElem_cons_succ, List.setIfInBounds_toArray, List.set_cons_zero, List.set_cons_succ])
          refine wpAnyIn_ready (rs := [9]) (by kernel_rfl) (by simp) ?_
          refine AllReadyIn.cons (o := ({ dst := some 21, op := .call { callee := .value (.tmp 19), args := #[.tmp 20], argTypes := #[25] }, type := 4, pos := "ikey.go:127", after := #[⟨7, .data⟩, ⟨8, .data⟩, ⟨6, .chain⟩, ⟨6, .guard⟩], guard := some (6, false) } : Go.Oper)) rfl (fun K hK => ?_) AllReadyIn.nil
          go_simp
          (first | refine ⟨fun _ h => (by cases h), ?_⟩ | refine ⟨trivial, ?_⟩ | refine ⟨fun _ _ => trivial, ?_⟩)
          refine hK _ _ ?_
          clear hK K
          (try simp only [Act.put, List.getElem_toArray, List.getElem_cons_zero, List.getElem_cons_succ, List.setIfInBounds_toArray, List.set_cons_zero, List.set_cons_succ])
          refine wpAnyIn_take (i := 10) (oi := ({ dst := some 22, op := .unOp .not 4 (.tmp 21), type := 4, pos := "ikey.go:127", after := #[⟨9, .data⟩, ⟨6, .guard⟩], guard := some (6, false) } : Go.Oper)) (v := undef) rfl rfl (by kernel_rfl) (by kernel_rfl) (by kernel_rfl) (fun _ _ _ h => h) ⟨Or.inr ⟨by rfl, rfl⟩, fun _ => rfl⟩ ?_
          (try simp only [Act.put, List.getElem_toArray, List.getElem_cons_zero, List.getElem_cons_succ, List.setIfInBounds_toArray, List.set_cons_zero, List.set_cons_succ])
          refine wpAnyIn_take (i := 11) (oi := ({ dst := some 23, op := .pick (.tmp 18) (.const (.bool true)) (.tmp 22), type := 4, pos := "ikey.go:127", after := #[⟨6, .data⟩, ⟨10, .data⟩], guard := none } : Go.Oper)) (v := ?v24) rfl rfl (by kernel_rfl) (by kernel_rfl) (by kernel_rfl) (fun _ _ _ h => h) ⟨Or.inl ⟨by rfl, ?hy24⟩, fun _ => rfl⟩ ?rest24
          case hy24 => (intro w; go_simp; (try with_reducible rfl))
          (try simp only [Act.put, List.getElem_toArray, List.getElem_cons_zero, List.getElem_cons_succ, List.setIfInBounds_toArray, List.set_cons_zero, List.set_cons_succ])
          refine wpAnyIn_done (by kernel_rfl) ?_ _
        all_goals
          have hx1 : Ext wr w1 := (by with_reducible (repeat (first | exact Ext.rfl_ _ | assumption | refine Ext.drew ?_ | refine Ext.drewN ?_ _ | refine Ext.alloc ?_ _ | refine Ext.trans ?_ (by assumption))))
          have HX := Lib.hid hx1
          clear hx1
          gi_wp2
          refine bodyPost_ret (results_none rfl _ _ _) rfl ?_
          refine ⟨⟨_, rfl⟩, .inl ⟨fun _ => False, ?_⟩⟩
          rw [ris_end hkl H0.out (by rw [H1.out]; exact hb)]
          exact hJ _ _ _ wr w1 H2.out (Kept.of_ext HX.out) (fun _ h => h) (fun _ h => .inl h)
    · obtain rfl : k = n := by omega
      gi_wp2
      go_end0
      refine ⟨⟨_, rfl⟩, .inl ⟨fun _ => False, ?_⟩⟩
      rw [hris, ← hxl, List.drop_length, ris, List.append_nil, hxl]
      exact hJs

end Go.Proofs.Ytpohmoakilioiaa
