/- The reference's Level and Bytes of layer 6. Conditions: the list reads. -/
import Derived.Test.YtddaagldelcbeaaRf6Q
namespace Go.Proofs.Ytddaagldelcbeaa
set_option linter.unusedSimpArgs false
set_option linter.unusedVariables false
open Go.RowKit

theorem wB_take {xs : List Ent} {k : Nat} (hk : k < xs.length) : wB6 (xs.take (k + 1)) = wB6 (xs.take k) + (wrE xs[k]).length := by
  rw [List.take_succ_eq_append_getElem hk]
  unfold wB6
  rw [List.map_append, List.sum_append]
  simp only [List.map_cons, List.map_nil, List.sum_cons, List.sum_nil, Nat.add_zero]
theorem wB6_le (xs : List Ent) : wB6 xs ≤ 65630 * xs.length := by
  induction xs with
  | nil => simp [wB6]
  | cons x xs ih =>
    have := wrE_len x
    simp [wB6] at ih ⊢
    omega

set_option maxRecDepth 100000 in
set_option maxHeartbeats 2000000 in
theorem rbytes6_any (A : Option Addr) (n c : Nat) (xs : List Ent) (w : World) (hl : RdL w A n xs) (hnc : n ≤ c) (hm : ∀ x ∈ xs, mayE x = true) (hn : n ≤ 1000000) :
    Calls Try.prog 17 #[.slice A n c] w fun e w' => e = .returned (.int .i64 (wB6 xs : Nat)) ∧ Ext w w' := by
  have HL := Lib.hid hl
  have HM := Lib.hid hm
  have hxl := hl.1
  clear hl hm
  go_enter Try.func17, Try.ntmps17
  go_wp2
  go_loopw [3, 4] (fun s i wr => ∃ j : Nat, j ≤ n ∧ i = .int .i64 j ∧ s = .int .i64 (wB6 (xs.take j) : Nat) ∧ Ext w wr) (fun _ i _ => n - (intOf i).toNat)
  case atStart => exact ⟨0, Nat.zero_le _, rfl, by simp [wB6], Ext.rfl_ _⟩
  case round =>
    obtain ⟨j, hj, rfl, rfl, hE⟩ := hrel
    by_cases hlt : j < n
    · have hltI : (j : Int) < (n : Int) := by omega
      have hncI : (n : Int) ≤ (c : Int) := by omega
      obtain ⟨b, o, rfl, _⟩ := HL.out.2.2 (by omega)
      obtain ⟨A1, n1, c1, A2, n2, c2, hx, e0, e1, e2, e3, hry⟩ := r6at HL.out hlt hE
      have hmj := HM.out xs[j] (List.getElem_mem hx)
      have HRY := Lib.hid (hry.ext hE)
      have HE := Lib.hid hE
      have hw1 := wB_take hx
      have hw2 := wB6_le (xs.take (j + 1))
      have hl2 : (xs.take (j + 1)).length ≤ 1000000 := by simp; omega
      have hB : wB6 (xs.take j) + (wrE xs[j]).length ≤ 65630000000 := by omega
      have HW1 := Lib.hid hw1
      have HMJ := Lib.hid hmj
      clear hry hE hw1 hw2 hl2 hmj
      generalize wB6 (xs.take j) = M at *
      go_wp2_with fail
      refine (rentB_any _ xs[j] _ HRY.out HMJ.out).mono ?_
      rintro e w' ⟨v', rfl, o', hw'⟩
      obtain ⟨A3, n3, c3, rfl, _, r3, _⟩ := o'.formN
      have hn3 : n3 = (wrE xs[j]).length := by rw [wrE_yes HMJ.out]; exact r3.1.symm
      have HW := Lib.hid (HE.out.trans (show Ext wr w' from (by with_reducible (repeat (first | exact Ext.rfl_ _ | assumption | refine Ext.drew ?_ | refine Ext.drewN ?_ _ | refine Ext.alloc ?_ _ | refine Ext.trans ?_ (by assumption))))))
      clear hw' o' r3
      rw [← hn3] at hB
      have HN3 := Lib.hid hn3
      clear hn3
      have hBI : (M : Int) + (n3 : Int) ≤ 65630000000 := by omega
      have hM0 : (0 : Int) ≤ (M : Int) := by omega
      have hN0 : (0 : Int) ≤ (n3 : Int) := by omega
      go_wp2
      go_roundw
      case rel => exact ⟨j + 1, by omega, by go_num, by rw [HW1.out, ← HN3.out]; go_num, HW.out⟩
      case measure => simp [intOf]; omega
    · have hjn : j = n := by omega
      have htk : xs.take j = xs := by rw [hjn, ← hxl, List.take_length]
      have HTK := Lib.hid htk
      have HE := Lib.hid hE
      have hltI : ¬ (j : Int) < (n : Int) := by omega
      clear hjn htk hE
      go_wp2
      go_ret
      refine ⟨?_, HE.out⟩
      show Ending.returned (.int .i64 (wB6 (xs.take j) : Nat)) = _
      rw [HTK.out]

set_option maxRecDepth 100000 in
set_option maxHeartbeats 2000000 in
theorem rlevel_no (A : Option Addr) (n c : Nat) (xs : List Ent) (z : Int) (w : World) (hl : RdL w A n xs) (hz : z < 0) :
    Calls Try.prog 25 #[.slice A n c, .int .i64 z] w fun e w' => e = .returned (.slice none 0 0) ∧ Ext w w' := by
  have hz' : ¬ 0 ≤ z := by omega
  go_enter Try.func25, Try.ntmps25
  go_wp2
  go_loopw [5, 6] (fun s i wr => s = .slice none 0 0 ∧ i = .int .i64 0 ∧ Ext w wr) (fun _ i _ => 0)
  case atStart => exact ⟨rfl, rfl, Ext.rfl_ _⟩
  case round =>
    obtain ⟨rfl, rfl, hE⟩ := hrel
    have HE := Lib.hid hE
    clear hE
    by_cases hn : (0 : Int) < (n : Int)
    · go_wp2
      go_ret
      exact ⟨rfl, HE.out⟩
    · go_wp2
      go_ret
      exact ⟨rfl, HE.out⟩

theorem filt_snoc {m k : Nat} {xs : List Ent} (hk : k < xs.length) : (xs.take (k + 1)).filter (fun y => decide (m < ht y)) = (xs.take k).filter (fun y => decide (m < ht y)) ++ (if m < ht xs[k] then [xs[k]] else []) := by
  rw [List.take_succ_eq_append_getElem hk, List.filter_append]
  by_cases h : m < ht xs[k] <;> simp [h]

set_option maxRecDepth 100000 in
set_option maxHeartbeats 4000000 in
theorem rlevel_any (A : Option Addr) (n c : Nat) (xs : List Ent) (m : Nat) (w : World) (hl : RdL w A n xs) (hnc : n ≤ c) (hn : n ≤ 1000000) :
    Calls Try.prog 25 #[.slice A n c, .int .i64 m] w fun e w' => (∃ v, e = .returned v ∧ OwnL w' w.heap.size v (xs.filter fun y => decide (m < ht y))) ∧ Ext w w' := by
  have HL := Lib.hid hl
  have hxl := hl.1
  have hm0 : (0 : Int) ≤ (m : Int) := by omega
  clear hl
  go_enter Try.func25, Try.ntmps25
  go_wp2
  go_loopw [5, 6] (fun s i wr => ∃ j : Nat, j ≤ n ∧ i = .int .i64 j ∧ Hid (OwnL wr w.heap.size s ((xs.take j).filter fun y => decide (m < ht y))) ∧ Ext w wr) (fun _ i _ => n - (intOf i).toNat)
  case atStart => exact ⟨0, Nat.zero_le _, rfl, Lib.hid (OwnL.nil _ _), Ext.rfl_ _⟩
  case round =>
    obtain ⟨j, hj, rfl, HO, hE⟩ := hrel
    by_cases hlt : j < n
    · have hltI : (j : Int) < (n : Int) := by omega
      have hncI : (n : Int) ≤ (c : Int) := by omega
      obtain ⟨b, o, rfl, _⟩ := HL.out.2.2 (by omega)
      obtain ⟨A1, n1, c1, A2, n2, c2, hx, e0, e1, e2, e3, hry⟩ := r6at HL.out hlt hE
      obtain ⟨_, _, _, _, _, _, hv, hr1, _, _, h47, _⟩ := id hry
      cases hv
      have HR1 := Lib.hid (hr1.ext hE)
      have hry' : RdE w (.agg (cellsE ⟨A1, n1, c1, A2, n2, c2⟩ xs[j]).toArray) xs[j] := hry
      have HEL : Hid (Elt w w.heap.size ⟨A1, n1, c1, A2, n2, c2⟩ xs[j]) := Lib.hid ⟨hry', Apt.low _ hry'.hdr.1 (Nat.le_refl _), Apt.low _ hry'.hdr.2 (Nat.le_refl _)⟩
      clear hry'
      have HE := Lib.hid hE
      have E0 := Lib.hid e0
      have E1 := Lib.hid e1
      have E2 := Lib.hid e2
      have E3 := Lib.hid e3
      have hfs := filt_snoc (m := m) hx
      have HFS := Lib.hid hfs
      clear hry hr1 hE hfs
      go_wp2
      have hkeep : ∀ w', Ext wr w' → w'.cell? ⟨b, o + j * 4, none⟩ = some (.slice A1 n1 c1) ∧ w'.cell? ⟨b, o + j * 4 + 1, none⟩ = some (.int .i64 xs[j].seq) := fun w' e => ⟨e.keeps _ _ _ E0.out, e.keeps _ _ _ E1.out⟩
      have HKP := Lib.hid hkeep
      clear hkeep
      refine wp_region_held_drew (S := (fun w' => w'.cell? ⟨b, o + j * 4, none⟩ = some (.slice A1 n1 c1) ∧ w'.cell? ⟨b, o + j * 4 + 1, none⟩ = some (.int .i64 xs[j].seq))) (by kernel_rfl) (by (try dsimp only); exact HKP.out _ (by with_reducible (repeat (first | exact Ext.rfl_ _ | assumption | refine Ext.drew ?_ | refine Ext.drewN ?_ _ | refine Ext.alloc ?_ _ | refine Ext.trans ?_ (by assumption))))) (fun hHeld => ?_)
      refine wpAnyH_take (i := 0) (oi := ({ dst := some 17, op := Go.Op.move (Go.Operand.tmp 0), type := 26, pos := "ref.go:75", after := #[], guard := none } : Go.Oper)) (v := ?v1) rfl (by kernel_rfl) (by kernel_rfl) (by kernel_rfl) (fun _ _ _ h => h) (Or.inl ⟨by rfl, ?hy1⟩) (by assumption) ?rest1
      case hy1 => (intro w hSw; (try dsimp only at hSw); go_simp; (try with_reducible rfl))
      (try simp only [Act.put, List.getElem_toArray, List.getElem_cons_zero, List.getElem_cons_succ, List.setIfInBounds_toArray, List.set_cons_zero, List.set_cons_succ])
      refine wpAnyH_take (i := 1) (oi := ({ dst := some 18, op := Go.Op.move (Go.Operand.tmp 6), type := 3, pos := "ref.go:75", after := #[], guard := none } : Go.Oper)) (v := ?v2) rfl (by kernel_rfl) (by kernel_rfl) (by kernel_rfl) (fun _ _ _ h => h) (Or.inl ⟨by rfl, ?hy2⟩) (by assumption) ?rest2
      case hy2 => (intro w hSw; (try dsimp only at hSw); go_simp; (try with_reducible rfl))
      (try simp only [Act.put, List.getElem_toArray, List.getElem_cons_zero, List.getElem_cons_succ, List.setIfInBounds_toArray, List.set_cons_zero, List.set_cons_succ])
      refine wpAnyH_take (i := 2) (oi := ({ dst := some 19, op := Go.Op.indexAddr 26 (Go.Operand.tmp 17) (Go.Operand.tmp 18), type := 0, pos := "ref.go:75", after := #[{ on := 0, ground := Go.Ground.data }, { on := 1, ground := Go.Ground.data }], guard := none } : Go.Oper)) (v := ?v3) rfl (by kernel_rfl) (by kernel_rfl) (by kernel_rfl) (fun _ _ _ h => h) (Or.inl ⟨by rfl, ?hy3⟩) (by assumption) ?rest3
      case hy3 => (intro w hSw; (try dsimp only at hSw); go_simp; (try with_reducible rfl))
      (try simp only [Act.put, List.getElem_toArray, List.getElem_cons_zero, List.getElem_cons_succ, List.setIfInBounds_toArray, List.set_cons_zero, List.set_cons_succ])
      refine wpAnyH_take (i := 3) (oi := ({ dst := some 20, op := Go.Op.fieldAddr 40 (Go.Operand.tmp 19) 0, type := 0, pos := "ref.go:75", after := #[{ on := 2, ground := Go.Ground.data }], guard := none } : Go.Oper)) (v := ?v4) rfl (by kernel_rfl) (by kernel_rfl) (by kernel_rfl) (fun _ _ _ h => h) (Or.inl ⟨by rfl, ?hy4⟩) (by assumption) ?rest4
      case hy4 => (intro w hSw; (try dsimp only at hSw); go_simp; (try with_reducible rfl))
      (try simp only [Act.put, List.getElem_toArray, List.getElem_cons_zero, List.getElem_cons_succ, List.setIfInBounds_toArray, List.set_cons_zero, List.set_cons_succ])
      refine wpAnyH_take (i := 4) (oi := ({ dst := some 21, op := Go.Op.load 22 (Go.Operand.tmp 20), type := 22, pos := "ref.go:75", after := #[{ on := 3, ground := Go.Ground.data }], guard := none } : Go.Oper)) (v := ?v5) rfl (by kernel_rfl) (by kernel_rfl) (by kernel_rfl) (fun _ _ _ h => h) (Or.inl ⟨by rfl, ?hy5⟩) (by assumption) ?rest5
      case hy5 => (intro w hSw; (try dsimp only at hSw); go_simp; (try with_reducible rfl))
      (try simp only [Act.put, List.getElem_toArray, List.getElem_cons_zero, List.getElem_cons_succ, List.setIfInBounds_toArray, List.set_cons_zero, List.set_cons_succ])
      refine wpAnyH_take (i := 5) (oi := ({ dst := some 22, op := Go.Op.move (Go.Operand.tmp 0), type := 26, pos := "ref.go:75", after := #[], guard := none } : Go.Oper)) (v := ?v6) rfl (by kernel_rfl) (by kernel_rfl) (by kernel_rfl) (fun _ _ _ h => h) (Or.inl ⟨by rfl, ?hy6⟩) (by assumption) ?rest6
      case hy6 => (intro w hSw; (try dsimp only at hSw); go_simp; (try with_reducible rfl))
      (try simp only [Act.put, List.getElem_toArray, List.getElem_cons_zero, List.getElem_cons_succ, List.setIfInBounds_toArray, List.set_cons_zero, List.set_cons_succ])
      refine wpAnyH_take (i := 6) (oi := ({ dst := some 23, op := Go.Op.move (Go.Operand.tmp 6), type := 3, pos := "ref.go:75", after := #[], guard := none } : Go.Oper)) (v := ?v7) rfl (by kernel_rfl) (by kernel_rfl) (by kernel_rfl) (fun _ _ _ h => h) (Or.inl ⟨by rfl, ?hy7⟩) (by assumption) ?rest7
      case hy7 => (intro w hSw; (try dsimp only at hSw); go_simp; (try with_reducible rfl))
      (try simp only [Act.put, List.getElem_toArray, List.getElem_cons_zero, List.getElem_cons_succ, List.setIfInBounds_toArray, List.set_cons_zero, List.set_cons_succ])
      refine wpAnyH_take (i := 7) (oi := ({ dst := some 24, op := Go.Op.indexAddr 26 (Go.Operand.tmp 22) (Go.Operand.tmp 23), type := 0, pos := "ref.go:75", after := #[{ on := 5, ground := Go.Ground.data }, { on := 6, ground := Go.Ground.data }], guard := none } : Go.Oper)) (v := ?v8) rfl (by kernel_rfl) (by kernel_rfl) (by kernel_rfl) (fun _ _ _ h => h) (Or.inl ⟨by rfl, ?hy8⟩) (by assumption) ?rest8
      case hy8 => (intro w hSw; (try dsimp only at hSw); go_simp; (try with_reducible rfl))
      (try simp only [Act.put, List.getElem_toArray, List.getElem_cons_zero, List.getElem_cons_succ, List.setIfInBounds_toArray, List.set_cons_zero, List.set_cons_succ])
      refine wpAnyH_take (i := 8) (oi := ({ dst := some 25, op := Go.Op.fieldAddr 40 (Go.Operand.tmp 24) 1, type := 0, pos := "ref.go:75", after := #[{ on := 7, ground := Go.Ground.data }], guard := none } : Go.Oper)) (v := ?v9) rfl (by kernel_rfl) (by kernel_rfl) (by kernel_rfl) (fun _ _ _ h => h) (Or.inl ⟨by rfl, ?hy9⟩) (by assumption) ?rest9
      case hy9 => (intro w hSw; (try dsimp only at hSw); go_simp; (try with_reducible rfl))
      (try simp only [Act.put, List.getElem_toArray, List.getElem_cons_zero, List.getElem_cons_succ, List.setIfInBounds_toArray, List.set_cons_zero, List.set_cons_succ])
      refine wpAnyH_take (i := 9) (oi := ({ dst := some 26, op := Go.Op.load 2 (Go.Operand.tmp 25), type := 2, pos := "ref.go:75", after := #[{ on := 8, ground := Go.Ground.data }], guard := none } : Go.Oper)) (v := ?v10) rfl (by kernel_rfl) (by kernel_rfl) (by kernel_rfl) (fun _ _ _ h => h) (Or.inl ⟨by rfl, ?hy10⟩) (by assumption) ?rest10
      case hy10 => (intro w hSw; (try dsimp only at hSw); go_simp; (try with_reducible rfl))
      (try simp only [Act.put, List.getElem_toArray, List.getElem_cons_zero, List.getElem_cons_succ, List.setIfInBounds_toArray, List.set_cons_zero, List.set_cons_succ])
      refine wpAnyH_take (i := 11) (oi := ({ dst := some 28, op := Go.Op.move (Go.Operand.tmp 1), type := 3, pos := "ref.go:75", after := #[], guard := none } : Go.Oper)) (v := ?v11) rfl (by kernel_rfl) (by kernel_rfl) (by kernel_rfl) (fun _ _ _ h => h) (Or.inl ⟨by rfl, ?hy11⟩) (by assumption) ?rest11
      case hy11 => (intro w hSw; (try dsimp only at hSw); go_simp; (try with_reducible rfl))
      (try simp only [Act.put, List.getElem_toArray, List.getElem_cons_zero, List.getElem_cons_succ, List.setIfInBounds_toArray, List.set_cons_zero, List.set_cons_succ])
      refine wpAnyH_ready (rs := [10]) (by kernel_rfl) (by simp) ?_
      refine AllReadyH.cons (o := ({ dst := some 27, op := Go.Op.call { callee := Go.Callee.value (Go.Operand.func 12), args := #[Go.Operand.tmp 21, Go.Operand.tmp 26], argTypes := #[22, 2] }, type := 3, pos := "ref.go:75", after := #[{ on := 4, ground := Go.Ground.data }, { on := 9, ground := Go.Ground.data }], guard := none } : Go.Oper)) rfl (fun K hK => ?_) AllReadyH.nil
      go_simp
      refine (rheight_any _ _ _ xs[j].key xs[j].seq _ ?_ h47).mono ?_; exact (HR1.out.ext (by with_reducible (repeat (first | exact Ext.rfl_ _ | assumption | refine Ext.drew ?_ | refine Ext.drewN ?_ _ | refine Ext.alloc ?_ _ | refine Ext.trans ?_ (by assumption))))); rintro e w' ⟨rfl, rfl⟩
      (try (go_wp2_with fail))
      refine hK.out _ _ (by (try dsimp only); exact HKP.out _ (by with_reducible (repeat (first | exact Ext.rfl_ _ | assumption | refine Ext.drew ?_ | refine Ext.drewN ?_ _ | refine Ext.alloc ?_ _ | refine Ext.trans ?_ (by assumption))))) (fun hHeld => ?_)
      clear hK K
      (try simp only [Act.put, List.getElem_toArray, List.getElem_cons_zero, List.getElem_cons_succ, List.setIfInBounds_toArray, List.set_cons_zero, List.set_cons_succ])
      refine wpAnyH_take (i := 12) (oi := ({ dst := some 29, op := Go.Op.binOp Go.BinOp.gtr 3 (Go.Operand.tmp 27) (Go.Operand.tmp 28) 3, type := 4, pos := "ref.go:75", after := #[{ on := 10, ground := Go.Ground.data }, { on := 11, ground := Go.Ground.data }], guard := none } : Go.Oper)) (v := ?v12) rfl (by kernel_rfl) (by kernel_rfl) (by kernel_rfl) (fun _ _ _ h => h) (Or.inl ⟨by rfl, ?hy12⟩) (by assumption) ?rest12
      case hy12 => (intro w hSw; (try dsimp only at hSw); go_simp; (try with_reducible rfl))
      (try simp only [Act.put, List.getElem_toArray, List.getElem_cons_zero, List.getElem_cons_succ, List.setIfInBounds_toArray, List.set_cons_zero, List.set_cons_succ])
      refine wpAnyH_done (by kernel_rfl) ?_ _
      all_goals
        by_cases hh : m < htH xs[j].key xs[j].seq
        · have hhI : (m : Int) < (htH xs[j].key xs[j].seq : Nat) := by omega
          have HH := Lib.hid hh
          clear hh
          have xd : Ext wr wr.drew := Ext.drew (Ext.rfl_ _)
          have k0 := xd.keeps _ _ _ E0.out
          have k1 := xd.keeps _ _ _ E1.out
          have k2 := xd.keeps _ _ _ E2.out
          have k3 := xd.keeps _ _ _ E3.out
          have hln : ((xs.take j).filter fun y => decide (m < ht y)).length ≤ 1000000 := Nat.le_trans (List.length_filter_le _ _) (by simp; omega)
          have HLN := Lib.hid hln
          clear hln
          go_wp2_with (at_builtin; refine wp_appL rfl _ _ rfl w.heap.size _ _ rfl (OwnL.ext HO.out (by with_reducible (repeat (first | exact Ext.rfl_ _ | assumption | refine Ext.drew ?_ | refine Ext.drewN ?_ _ | refine Ext.alloc ?_ _ | refine Ext.trans ?_ (by assumption))))) (some ⟨_, 0, none⟩) 1 1 [xs[j]] rfl (RdLa.one (h := ⟨A1, n1, c1, A2, n2, c2⟩) (x := xs[j]) _ (Elt.ext HEL.out (HE.out.trans (by with_reducible (repeat (first | exact Ext.rfl_ _ | assumption | refine Ext.drew ?_ | refine Ext.drewN ?_ _ | refine Ext.alloc ?_ _ | refine Ext.trans ?_ (by assumption))))))) (by have := HLN.out; unfold B41; simp only [List.length_cons, List.length_nil]; omega) (Ext.size (HE.out.trans (by with_reducible (repeat (first | exact Ext.rfl_ _ | assumption | refine Ext.drew ?_ | refine Ext.drewN ?_ _ | refine Ext.alloc ?_ _ | refine Ext.trans ?_ (by assumption)))))) ?_; intro v5 w5 o5 g5 _; have x5 : Ext w w5 := Ext.growL (show Ext w _ from HE.out.trans (by with_reducible (repeat (first | exact Ext.rfl_ _ | assumption | refine Ext.drew ?_ | refine Ext.drewN ?_ _ | refine Ext.alloc ?_ _ | refine Ext.trans ?_ (by assumption))))) g5 (OwnL.ext HO.out (by with_reducible (repeat (first | exact Ext.rfl_ _ | assumption | refine Ext.drew ?_ | refine Ext.drewN ?_ _ | refine Ext.alloc ?_ _ | refine Ext.trans ?_ (by assumption))))) (Nat.le_refl _); clear g5)
          go_roundw
          case rel =>
            refine ⟨j + 1, by omega, by go_num, ?_, x5⟩
            rw [HFS.out, if_pos (show m < ht xs[j] from HH.out)]
            exact Lib.hid o5
          case measure => simp [intOf]; omega
        · have hhI : ¬ (m : Int) < (htH xs[j].key xs[j].seq : Nat) := by omega
          have HH := Lib.hid hh
          clear hh
          go_wp2
          go_roundw
          case rel =>
            refine ⟨j + 1, by omega, by go_num, ?_, HE.out.trans (by with_reducible (repeat (first | exact Ext.rfl_ _ | assumption | refine Ext.drew ?_ | refine Ext.drewN ?_ _ | refine Ext.alloc ?_ _ | refine Ext.trans ?_ (by assumption))))⟩
            rw [HFS.out, if_neg (show ¬ m < ht xs[j] from HH.out), List.append_nil]
            exact Lib.hid (HO.out.ext (by with_reducible (repeat (first | exact Ext.rfl_ _ | assumption | refine Ext.drew ?_ | refine Ext.drewN ?_ _ | refine Ext.alloc ?_ _ | refine Ext.trans ?_ (by assumption)))))
          case measure => simp [intOf]; omega
    · have hjn : j = n := by omega
      have htk : xs.take j = xs := by rw [hjn, ← hxl, List.take_length]
      rw [htk] at HO
      have HE := Lib.hid hE
      have hltI : ¬ (j : Int) < (n : Int) := by omega
      clear hjn htk hE
      go_wp2
      go_ret
      exact ⟨⟨_, rfl, HO.out⟩, HE.out⟩

end Go.Proofs.Ytddaagldelcbeaa
