/- The law's own rows are as the chapter says. Conditions: none. -/
import Derived.Test.YteooaplimiifiaaGreatEdKnM
import Derived.Test.YteooaplimiifiaaGreatLit
namespace Go.Proofs.YteooaplimiifiaaGreat
set_option linter.unusedSimpArgs false
set_option linter.unusedVariables false
set_option maxRecDepth 100000
open Go.RowKit

set_option maxRecDepth 100000 in
set_option maxHeartbeats 8000000 in
theorem known_any (w : World) : Calls Tryz.prog 4 #[] w fun e w' => e = .returned (.bool true) ∧ Ext w w' := by
  go_enter Tryz.func4, Tryz.ntmps4
  go_wp2_with fail
  refine (ltab_any 1 0 97 99 _ ⟨by decide, by decide⟩ ⟨by decide, by decide⟩).mono ?_
  rintro e w1 ⟨A1, c1, B1, d1, rfl, hr1, hw1⟩
  have HR1 := Lib.hid hr1
  have HL1 := Lib.hid (rdT1 (t := kt1) (heap_alloc_new w1 (.cells #[.int .i64 1, .int .i64 0, .slice A1 1 c1, .slice B1 1 d1, .int .i64 1] 42)) rfl rfl rfl (hr1.ext (Ext.alloc (Ext.rfl_ _) _)))
  have X1 := Lib.hid hw1
  clear hr1 hw1
  go_wp2_with fail
  refine (do_any _ _ kv0 ke1 _ ⟨none, 0, 0, rfl, RdLT.nil _ _, Nat.le_refl _⟩ ⟨none, 0, 0, _, 1, 1, rfl, rdN_nil _ _, Nat.le_refl _, HL1.out, Nat.le_refl _⟩ (by decide) (by decide) (by decide)).mono ?_
  rintro e w2 ⟨u2, z2, err2, rfl, hu, hd, hx⟩
  obtain ⟨rfl, rfl⟩ := kdo1 hd
  obtain ⟨A2, n2, c2, hv2, hr2, hc2⟩ := hu.rd
  obtain rfl : 1 = n2 := hr2.1
  have hv2' : u2 = .agg #[.int .i64 2, .int .i64 0, .int .i64 0, .int .i64 3, .slice A2 1 c2] := hv2
  subst hv2'
  have HR2 := Lib.hid hr2
  have HC2 := Lib.hid hc2
  have X2 := Lib.hid (X1.out.trans ((Ext.alloc (Ext.rfl_ w1) _).trans hx))
  clear hd hv2 hr2 hc2 hx
  have HBA := Lib.hid (heap_alloc_new w2 (.cells #[.int .i64 2, .int .i64 0, .int .i64 0, .int .i64 3, .slice A2 1 c2] 24))
  obtain ⟨W3, hW3⟩ : ∃ W3, W3 = w2.alloc (.cells #[.int .i64 2, .int .i64 0, .int .i64 0, .int .i64 3, .slice A2 1 c2] 24) := ⟨_, rfl⟩
  have X3 := Lib.hid (show Ext w W3 from by rw [hW3]; exact X2.out.alloc _)
  have HR3 := Lib.hid (show RdLT W3 A2 1 kv1.ts from by rw [hW3]; exact HR2.out.ext (Ext.alloc (Ext.rfl_ _) _))
  rw [← hW3] at HBA
  go_upto_region 4 with (fail)
  rw [← hW3]
  obtain ⟨oa, hoa⟩ : ∃ oa, w2.heap.size = oa := ⟨_, rfl⟩
  rw [hoa] at HBA ⊢
  clear hW3 hoa HR2 X2
  have HS3 := Lib.hid (show ∀ W, Ext W3 W → (W.cell? ⟨oa, 0, none⟩ = some (.int .i64 2) ∧ W.cell? ⟨oa, 1, none⟩ = some (.int .i64 0) ∧ W.cell? ⟨oa, 2, none⟩ = some (.int .i64 0) ∧ W.cell? ⟨oa, 3, none⟩ = some (.int .i64 3) ∧ W.cell? ⟨oa, 4, none⟩ = some (.slice A2 1 c2)) from fun W hW => by
    obtain ⟨a0, a1, a2, a3, a4, _⟩ := box5 HBA.out hW
    exact ⟨a0, a1, a2, a3, a4⟩)
  go_cut [2, 3] from 28 (fun e p wx => ∃ (o : Nat) (A : Option Addr) (c : Nat), e = .int .i64 0 ∧ p = .pointer (some ⟨o, 0, none⟩) ∧ W3.heap.size ≤ o ∧ 2 ≤ c ∧ wx.heap[o]? = some (.cells #[.int .i64 4, .int .i64 0, .int .i64 0, .int .i64 3, .slice A 2 c] 24 (0, 0)) ∧ Ext W3 wx ∧ RdLT wx A 2 kv2.ts)
  case first =>
    go_wp2
    refine wp_region_held_drew (S := (fun W => W.cell? ⟨oa, 0, none⟩ = some (.int .i64 2) ∧ W.cell? ⟨oa, 1, none⟩ = some (.int .i64 0) ∧ W.cell? ⟨oa, 2, none⟩ = some (.int .i64 0) ∧ W.cell? ⟨oa, 3, none⟩ = some (.int .i64 3) ∧ W.cell? ⟨oa, 4, none⟩ = some (.slice A2 1 c2))) (by kernel_rfl) (by (try dsimp only); exact HS3.out _ (by with_reducible (repeat (first | assumption | exact .rfl_ _ | refine .drew ?_ | refine .alloc ?_ _ | refine .setCell ?_ (by omega) _ | refine .trans ?_ (by assumption))))) (fun hHeld => ?_)
    refine wpAnyH_take (i := 0) (oi := ({ dst := some 29, op := .load 24 (.tmp 1), type := 24, pos := "law.go:21", after := #[], guard := none } : Go.Oper)) (v := ?v1) rfl (by kernel_rfl) (by kernel_rfl) (by kernel_rfl) (fun _ _ _ h => h) (Or.inl ⟨by rfl, ?hy1⟩) (by assumption) ?rest1
    case hy1 => (intro w hSw; (try dsimp only at hSw); go_simp; (try with_reducible rfl))
    (try simp only [Act.put, List.getElem_toArray, List.getElem_cons_zero, List.getElem_cons_succ, List.setIfInBounds_toArray, List.set_cons_zero, List.set_cons_succ])
    refine wpAnyH_ready (rs := [1, 2, 10]) (by kernel_rfl) (by simp) ?_
    refine AllReadyH.cons (o := ({ dst := some 30, op := .buildSlice 26 1 #[(0, .const (.int .i64 1))], type := 26, pos := "law.go:21", after := #[], guard := none } : Go.Oper)) rfl (fun K hK => ?one2) ?more2
    case' one2 =>
     go_simp; (first | refine k_allocD (w0 := W3) ?_ (fun hb => ?_) | refine k_alloc (w0 := W3) ?_ (fun hb => ?_)); exact (by with_reducible (repeat (first | exact Ext.rfl_ _ | assumption | refine Ext.drew ?_ | refine Ext.drewN ?_ _ | refine Ext.alloc ?_ _ | refine Ext.trans ?_ (by assumption)))); (try simp only [World.size_alloc] at hb); have HDB := Lib.hid hb.1; clear hb
     refine hK.out _ _ (by exact HS3.out _ (by with_reducible (repeat (first | assumption | exact .rfl_ _ | refine .drew ?_ | refine .alloc ?_ _ | refine .setCell ?_ (by omega) _ | refine .trans ?_ (by assumption))))) (fun _ => ?_)
     clear hK K
     (try simp only [Act.put, List.getElem_toArray, List.getElem_cons_zero, List.getElem_cons_succ, List.setIfInBounds_toArray, List.set_cons_zero, List.set_cons_succ])
     refine wpAnyH_ready (rs := [2, 10]) (by kernel_rfl) (by simp) ?_
     refine AllReadyH.cons (o := ({ dst := some 31, op := .call { callee := .value (.func 11), args := #[.const (.int .i64 3), .const (.int .i64 1), .const (.int .u8 99), .const (.int .u8 99)], argTypes := #[2, 3, 5, 5] }, type := 42, pos := "law.go:21", after := #[], guard := none } : Go.Oper)) rfl (fun K hK => ?one3) ?more3
     case' one3 =>
      go_simp; refine (ltab_any 3 1 99 99 _ ⟨by decide, by decide⟩ ⟨by decide, by decide⟩).mono ?_; rintro e wt3 ⟨At3, ct3, Bt3, dt3, rfl, hrt3, hwt3⟩; have HT3 := Lib.hid (show RdT wt3 _ kt3 from hrt3); clear hrt3; (try (have HBO := Lib.hid (blkX HBO.out (show Ext _ wt3 from (by with_reducible (repeat (first | exact Ext.rfl_ _ | assumption | refine Ext.drew ?_ | refine Ext.drewN ?_ _ | refine Ext.alloc ?_ _ | refine Ext.trans ?_ (by assumption)))))))); (try (go_wp2_with fail))
      refine hK.out _ _ (by exact HS3.out _ (by with_reducible (repeat (first | assumption | exact .rfl_ _ | refine .drew ?_ | refine .alloc ?_ _ | refine .setCell ?_ (by omega) _ | refine .trans ?_ (by assumption))))) (fun _ => ?_)
      clear hK K
      (try simp only [Act.put, List.getElem_toArray, List.getElem_cons_zero, List.getElem_cons_succ, List.setIfInBounds_toArray, List.set_cons_zero, List.set_cons_succ])
      refine wpAnyH_ready (rs := [3, 10]) (by kernel_rfl) (by simp) ?_
      refine AllReadyH.cons (o := ({ dst := some 32, op := .call { callee := .value (.func 11), args := #[.const (.int .i64 2), .const (.int .i64 1), .const (.int .u8 97), .const (.int .u8 98)], argTypes := #[2, 3, 5, 5] }, type := 42, pos := "law.go:21", after := #[⟨2, .chain⟩], guard := none } : Go.Oper)) rfl (fun K hK => ?one4) ?more4
      case' one4 =>
       go_simp; refine (ltab_any 2 1 97 98 _ ⟨by decide, by decide⟩ ⟨by decide, by decide⟩).mono ?_; rintro e wt2 ⟨At2, ct2, Bt2, dt2, rfl, hrt2, hwt2⟩; have HT2 := Lib.hid (show RdT wt2 _ kt2 from hrt2); clear hrt2; (try (have HBO := Lib.hid (blkX HBO.out (show Ext _ wt2 from (by with_reducible (repeat (first | exact Ext.rfl_ _ | assumption | refine Ext.drew ?_ | refine Ext.drewN ?_ _ | refine Ext.alloc ?_ _ | refine Ext.trans ?_ (by assumption)))))))); (try (go_wp2_with fail))
       refine hK.out _ _ (by exact HS3.out _ (by with_reducible (repeat (first | assumption | exact .rfl_ _ | refine .drew ?_ | refine .alloc ?_ _ | refine .setCell ?_ (by omega) _ | refine .trans ?_ (by assumption))))) (fun _ => ?_)
       clear hK K
       (try simp only [Act.put, List.getElem_toArray, List.getElem_cons_zero, List.getElem_cons_succ, List.setIfInBounds_toArray, List.set_cons_zero, List.set_cons_succ])
       refine wpAnyH_ready (rs := [4, 10]) (by kernel_rfl) (by simp) ?_
       refine AllReadyH.cons (o := ({ dst := some 33, op := .buildSlice 22 2 #[(0, .tmp 31), (1, .tmp 32)], type := 22, pos := "law.go:21", after := #[⟨2, .data⟩, ⟨3, .data⟩], guard := none } : Go.Oper)) rfl (fun K hK => ?one5) ?more5
       case' one5 =>
        go_simp; (first | refine k_allocD (w0 := W3) ?_ (fun hb => ?_) | refine k_alloc (w0 := W3) ?_ (fun hb => ?_)); exact (by with_reducible (repeat (first | exact Ext.rfl_ _ | assumption | refine Ext.drew ?_ | refine Ext.drewN ?_ _ | refine Ext.alloc ?_ _ | refine Ext.trans ?_ (by assumption)))); (try simp only [World.size_alloc] at hb); have HL2 := Lib.hid (rdT2 (t := kt3) (t' := kt2) hb.1 rfl rfl rfl rfl rfl rfl (HT3.out.ext (by with_reducible (repeat (first | exact Ext.rfl_ _ | assumption | refine Ext.drew ?_ | refine Ext.drewN ?_ _ | refine Ext.alloc ?_ _ | refine Ext.trans ?_ (by assumption))))) (HT2.out.ext (by with_reducible (repeat (first | exact Ext.rfl_ _ | assumption | refine Ext.drew ?_ | refine Ext.drewN ?_ _ | refine Ext.alloc ?_ _ | refine Ext.trans ?_ (by assumption)))))); clear hb
        refine hK.out _ _ (by exact HS3.out _ (by with_reducible (repeat (first | assumption | exact .rfl_ _ | refine .drew ?_ | refine .alloc ?_ _ | refine .setCell ?_ (by omega) _ | refine .trans ?_ (by assumption))))) (fun _ => ?_)
        clear hK K
        (try simp only [Act.put, List.getElem_toArray, List.getElem_cons_zero, List.getElem_cons_succ, List.setIfInBounds_toArray, List.set_cons_zero, List.set_cons_succ])
        refine wpAnyH_ready (rs := [5, 10]) (by kernel_rfl) (by simp) ?_
        refine AllReadyH.cons (o := ({ dst := some 34, op := .build 28 #[(0, .tmp 30), (1, .tmp 33), (2, .const (.int .i64 4)), (5, .const (.int .i64 3))], type := 28, pos := "law.go:21", after := #[⟨1, .data⟩, ⟨4, .data⟩], guard := none } : Go.Oper)) rfl (fun K hK => ?one6) ?more6
        case' one6 =>
         go_simp
         refine hK.out _ _ (by exact HS3.out _ (by with_reducible (repeat (first | assumption | exact .rfl_ _ | refine .drew ?_ | refine .alloc ?_ _ | refine .setCell ?_ (by omega) _ | refine .trans ?_ (by assumption))))) (fun _ => ?_)
         clear hK K
         (try simp only [Act.put, List.getElem_toArray, List.getElem_cons_zero, List.getElem_cons_succ, List.setIfInBounds_toArray, List.set_cons_zero, List.set_cons_succ])
         refine wpAnyH_ready (rs := [6, 10]) (by kernel_rfl) (by simp) ?_
         refine AllReadyH.cons (o := ({ dst := some 35, op := .call { callee := .value (.func 7), args := #[.tmp 29, .tmp 34], argTypes := #[24, 28] }, type := 33, pos := "law.go:21", after := #[⟨0, .data⟩, ⟨5, .data⟩, ⟨3, .chain⟩], guard := none } : Go.Oper)) rfl (fun K hK => ?one7) ?more7
         case' one7 =>
          go_simp; refine (kdo2_any A2 c2 _ _ _ (HR3.out.ext (by with_reducible (repeat (first | exact Ext.rfl_ _ | assumption | refine Ext.drew ?_ | refine Ext.drewN ?_ _ | refine Ext.alloc ?_ _ | refine Ext.trans ?_ (by assumption))))) HC2.out (rdN1 (blkX HDB.out (by with_reducible (repeat (first | exact Ext.rfl_ _ | assumption | refine Ext.drew ?_ | refine Ext.drewN ?_ _ | refine Ext.alloc ?_ _ | refine Ext.trans ?_ (by assumption))))) ⟨by decide, by decide⟩) (HL2.out.ext (by with_reducible (repeat (first | exact Ext.rfl_ _ | assumption | refine Ext.drew ?_ | refine Ext.drewN ?_ _ | refine Ext.alloc ?_ _ | refine Ext.trans ?_ (by assumption)))))).mono ?_; rintro e wd ⟨b4, A4, c4, rfl, ho4, hc4, hx⟩; have HO4 := Lib.hid ho4; have HC4 := Lib.hid hc4; clear hc4 ho4; (try (have HBO := Lib.hid (blkX HBO.out (show Ext _ wd from (by with_reducible (repeat (first | exact Ext.rfl_ _ | assumption | refine Ext.drew ?_ | refine Ext.drewN ?_ _ | refine Ext.alloc ?_ _ | refine Ext.trans ?_ (by assumption)))))))); (try (go_wp2_with fail))
          refine hK.out _ _ (by exact HS3.out _ (by with_reducible (repeat (first | assumption | exact .rfl_ _ | refine .drew ?_ | refine .alloc ?_ _ | refine .setCell ?_ (by omega) _ | refine .trans ?_ (by assumption))))) (fun _ => ?_)
          clear hK K
          refine wpAnyH_take (i := 7) (oi := ({ dst := some 28, op := .move (.tmp 35), type := 33, pos := "law.go:21", after := #[⟨6, .data⟩], guard := none } : Go.Oper)) (v := ?v8) rfl (by kernel_rfl) (by kernel_rfl) (by kernel_rfl) (fun _ _ _ h => h) (Or.inl ⟨by rfl, ?hy8⟩) (by assumption) ?rest8
          case hy8 => (intro w hSw; (try dsimp only at hSw); go_simp; (try with_reducible rfl))
          refine wpAnyH_take (i := 8) (oi := ({ dst := some 36, op := .extract (.tmp 28) 0, type := 24, pos := "law.go:21", after := #[⟨7, .data⟩], guard := none } : Go.Oper)) (v := ?v9) rfl (by kernel_rfl) (by kernel_rfl) (by kernel_rfl) (fun _ _ _ h => h) (Or.inl ⟨by rfl, ?hy9⟩) (by assumption) ?rest9
          case hy9 => (intro w hSw; (try dsimp only at hSw); go_simp; (try with_reducible rfl))
          refine wpAnyH_take (i := 9) (oi := ({ dst := some 37, op := .extract (.tmp 28) 1, type := 29, pos := "law.go:21", after := #[⟨7, .data⟩, ⟨11, .gcOnly .lateStores⟩], guard := none } : Go.Oper)) (v := ?v10) rfl (by kernel_rfl) (by kernel_rfl) (by kernel_rfl) (fun _ _ _ h => h) (Or.inl ⟨by rfl, ?hy10⟩) (by assumption) ?rest10
          case hy10 => (intro w hSw; (try dsimp only at hSw); go_simp; (try with_reducible rfl))
          (try simp only [Act.put, List.getElem_toArray, List.getElem_cons_zero, List.getElem_cons_succ, List.setIfInBounds_toArray, List.set_cons_zero, List.set_cons_succ])
          refine wpAnyH_ready (rs := [10]) (by kernel_rfl) (by simp) ?_
          refine AllReadyH.cons (o := ({ dst := some 3, op := .alloc 24, type := 0, pos := "law.go:21", after := #[], guard := none } : Go.Oper)) rfl (fun K hK => ?_) AllReadyH.nil
          go_simp; (first | refine k_allocD (w0 := W3) ?_ (fun hb => ?_) | refine k_alloc (w0 := W3) ?_ (fun hb => ?_)); exact (by with_reducible (repeat (first | exact Ext.rfl_ _ | assumption | refine Ext.drew ?_ | refine Ext.drewN ?_ _ | refine Ext.alloc ?_ _ | refine Ext.trans ?_ (by assumption)))); (try simp only [World.size_alloc] at hb); have HBO := Lib.hid hb.1; have zo := hb.2; clear hb; (try have ALAST := Lib.hid HC4.out)
          refine hK.out _ _ (by exact HS3.out _ (by with_reducible (repeat (first | assumption | exact .rfl_ _ | refine .drew ?_ | refine .alloc ?_ _ | refine .setCell ?_ (by omega) _ | refine .trans ?_ (by assumption))))) (fun _ => ?_)
          clear hK K
          (try simp only [Act.put, List.getElem_toArray, List.getElem_cons_zero, List.getElem_cons_succ, List.setIfInBounds_toArray, List.set_cons_zero, List.set_cons_succ])
          refine wpAnyH_ready (rs := [11]) (by kernel_rfl) (by simp) ?_
          refine AllReadyH.cons (o := ({ dst := none, op := .store 24 (.tmp 3) (.tmp 36), type := 0, pos := "law.go:21", after := #[⟨10, .data⟩, ⟨8, .data⟩, ⟨6, .chain⟩, ⟨0, .phase⟩, ⟨1, .phase⟩, ⟨2, .phase⟩, ⟨3, .phase⟩, ⟨4, .phase⟩, ⟨5, .phase⟩, ⟨6, .phase⟩, ⟨7, .phase⟩, ⟨8, .phase⟩, ⟨9, .textOnly .lateStores⟩, ⟨10, .phase⟩], guard := none } : Go.Oper)) rfl (fun K hK => ?_) AllReadyH.nil
          obtain ⟨o0, o1, o2, o3, o4, p0, p1, p2, p3, p4⟩ := box5 HBO.out (Ext.rfl_ _); go_simp
          refine hK.out _ _ (by exact HS3.out _ (by with_reducible (repeat (first | assumption | exact .rfl_ _ | refine .drew ?_ | refine .alloc ?_ _ | refine .setCell ?_ (by omega) _ | refine .trans ?_ (by assumption))))) (fun _ => ?_)
          clear hK K
          refine wpAnyH_take (i := 12) (oi := ({ dst := some 2, op := .assign (.tmp 37), type := 29, pos := "law.go:21", after := #[⟨9, .data⟩, ⟨11, .chain⟩, ⟨0, .phase⟩, ⟨1, .phase⟩, ⟨2, .phase⟩, ⟨3, .phase⟩, ⟨4, .phase⟩, ⟨5, .phase⟩, ⟨6, .phase⟩, ⟨7, .phase⟩, ⟨8, .phase⟩, ⟨9, .phase⟩, ⟨10, .phase⟩, ⟨11, .phase⟩], guard := none } : Go.Oper)) (v := ?v11) rfl (by kernel_rfl) (by kernel_rfl) (by kernel_rfl) (fun _ _ _ h => h) (Or.inl ⟨by rfl, ?hy11⟩) (by assumption) ?rest11
          case hy11 => (intro w hSw; (try dsimp only at hSw); go_simp; (try with_reducible rfl))
          (try simp only [Act.put, List.getElem_toArray, List.getElem_cons_zero, List.getElem_cons_succ, List.setIfInBounds_toArray, List.set_cons_zero, List.set_cons_succ])
          refine wpAnyH_done (by kernel_rfl) ?_ _
         case' more7 =>
          refine AllReadyH.cons (o := ({ dst := some 3, op := .alloc 24, type := 0, pos := "law.go:21", after := #[], guard := none } : Go.Oper)) rfl (fun K hK => ?_) AllReadyH.nil
          go_simp; (first | refine k_allocD (w0 := W3) ?_ (fun hb => ?_) | refine k_alloc (w0 := W3) ?_ (fun hb => ?_)); exact (by with_reducible (repeat (first | exact Ext.rfl_ _ | assumption | refine Ext.drew ?_ | refine Ext.drewN ?_ _ | refine Ext.alloc ?_ _ | refine Ext.trans ?_ (by assumption)))); (try simp only [World.size_alloc] at hb); have HBO := Lib.hid hb.1; have zo := hb.2; clear hb; (try have ALAST := Lib.hid HC4.out)
          refine hK.out _ _ (by exact HS3.out _ (by with_reducible (repeat (first | assumption | exact .rfl_ _ | refine .drew ?_ | refine .alloc ?_ _ | refine .setCell ?_ (by omega) _ | refine .trans ?_ (by assumption))))) (fun _ => ?_)
          clear hK K
          (try simp only [Act.put, List.getElem_toArray, List.getElem_cons_zero, List.getElem_cons_succ, List.setIfInBounds_toArray, List.set_cons_zero, List.set_cons_succ])
          refine wpAnyH_ready (rs := [6]) (by kernel_rfl) (by simp) ?_
          refine AllReadyH.cons (o := ({ dst := some 35, op := .call { callee := .value (.func 7), args := #[.tmp 29, .tmp 34], argTypes := #[24, 28] }, type := 33, pos := "law.go:21", after := #[⟨0, .data⟩, ⟨5, .data⟩, ⟨3, .chain⟩], guard := none } : Go.Oper)) rfl (fun K hK => ?_) AllReadyH.nil
          go_simp; refine (kdo2_any A2 c2 _ _ _ (HR3.out.ext (by with_reducible (repeat (first | exact Ext.rfl_ _ | assumption | refine Ext.drew ?_ | refine Ext.drewN ?_ _ | refine Ext.alloc ?_ _ | refine Ext.trans ?_ (by assumption))))) HC2.out (rdN1 (blkX HDB.out (by with_reducible (repeat (first | exact Ext.rfl_ _ | assumption | refine Ext.drew ?_ | refine Ext.drewN ?_ _ | refine Ext.alloc ?_ _ | refine Ext.trans ?_ (by assumption))))) ⟨by decide, by decide⟩) (HL2.out.ext (by with_reducible (repeat (first | exact Ext.rfl_ _ | assumption | refine Ext.drew ?_ | refine Ext.drewN ?_ _ | refine Ext.alloc ?_ _ | refine Ext.trans ?_ (by assumption)))))).mono ?_; rintro e wd ⟨b4, A4, c4, rfl, ho4, hc4, hx⟩; have HO4 := Lib.hid ho4; have HC4 := Lib.hid hc4; clear hc4 ho4; (try (have HBO := Lib.hid (blkX HBO.out (show Ext _ wd from (by with_reducible (repeat (first | exact Ext.rfl_ _ | assumption | refine Ext.drew ?_ | refine Ext.drewN ?_ _ | refine Ext.alloc ?_ _ | refine Ext.trans ?_ (by assumption)))))))); (try (go_wp2_with fail))
          refine hK.out _ _ (by exact HS3.out _ (by with_reducible (repeat (first | assumption | exact .rfl_ _ | refine .drew ?_ | refine .alloc ?_ _ | refine .setCell ?_ (by omega) _ | refine .trans ?_ (by assumption))))) (fun _ => ?_)
          clear hK K
          refine wpAnyH_take (i := 7) (oi := ({ dst := some 28, op := .move (.tmp 35), type := 33, pos := "law.go:21", after := #[⟨6, .data⟩], guard := none } : Go.Oper)) (v := ?v12) rfl (by kernel_rfl) (by kernel_rfl) (by kernel_rfl) (fun _ _ _ h => h) (Or.inl ⟨by rfl, ?hy12⟩) (by assumption) ?rest12
          case hy12 => (intro w hSw; (try dsimp only at hSw); go_simp; (try with_reducible rfl))
          refine wpAnyH_take (i := 8) (oi := ({ dst := some 36, op := .extract (.tmp 28) 0, type := 24, pos := "law.go:21", after := #[⟨7, .data⟩], guard := none } : Go.Oper)) (v := ?v13) rfl (by kernel_rfl) (by kernel_rfl) (by kernel_rfl) (fun _ _ _ h => h) (Or.inl ⟨by rfl, ?hy13⟩) (by assumption) ?rest13
          case hy13 => (intro w hSw; (try dsimp only at hSw); go_simp; (try with_reducible rfl))
          refine wpAnyH_take (i := 9) (oi := ({ dst := some 37, op := .extract (.tmp 28) 1, type := 29, pos := "law.go:21", after := #[⟨7, .data⟩, ⟨11, .gcOnly .lateStores⟩], guard := none } : Go.Oper)) (v := ?v14) rfl (by kernel_rfl) (by kernel_rfl) (by kernel_rfl) (fun _ _ _ h => h) (Or.inl ⟨by rfl, ?hy14⟩) (by assumption) ?rest14
          case hy14 => (intro w hSw; (try dsimp only at hSw); go_simp; (try with_reducible rfl))
          (try simp only [Act.put, List.getElem_toArray, List.getElem_cons_zero, List.getElem_cons_succ, List.setIfInBounds_toArray, List.set_cons_zero, List.set_cons_succ])
          refine wpAnyH_ready (rs := [11]) (by kernel_rfl) (by simp) ?_
          refine AllReadyH.cons (o := ({ dst := none, op := .store 24 (.tmp 3) (.tmp 36), type := 0, pos := "law.go:21", after := #[⟨10, .data⟩, ⟨8, .data⟩, ⟨6, .chain⟩, ⟨0, .phase⟩, ⟨1, .phase⟩, ⟨2, .phase⟩, ⟨3, .phase⟩, ⟨4, .phase⟩, ⟨5, .phase⟩, ⟨6, .phase⟩, ⟨7, .phase⟩, ⟨8, .phase⟩, ⟨9, .textOnly .lateStores⟩, ⟨10, .phase⟩], guard := none } : Go.Oper)) rfl (fun K hK => ?_) AllReadyH.nil
          obtain ⟨o0, o1, o2, o3, o4, p0, p1, p2, p3, p4⟩ := box5 HBO.out (Ext.rfl_ _); go_simp
          refine hK.out _ _ (by exact HS3.out _ (by with_reducible (repeat (first | assumption | exact .rfl_ _ | refine .drew ?_ | refine .alloc ?_ _ | refine .setCell ?_ (by omega) _ | refine .trans ?_ (by assumption))))) (fun _ => ?_)
          clear hK K
          refine wpAnyH_take (i := 12) (oi := ({ dst := some 2, op := .assign (.tmp 37), type := 29, pos := "law.go:21", after := #[⟨9, .data⟩, ⟨11, .chain⟩, ⟨0, .phase⟩, ⟨1, .phase⟩, ⟨2, .phase⟩, ⟨3, .phase⟩, ⟨4, .phase⟩, ⟨5, .phase⟩, ⟨6, .phase⟩, ⟨7, .phase⟩, ⟨8, .phase⟩, ⟨9, .phase⟩, ⟨10, .phase⟩, ⟨11, .phase⟩], guard := none } : Go.Oper)) (v := ?v15) rfl (by kernel_rfl) (by kernel_rfl) (by kernel_rfl) (fun _ _ _ h => h) (Or.inl ⟨by rfl, ?hy15⟩) (by assumption) ?rest15
          case hy15 => (intro w hSw; (try dsimp only at hSw); go_simp; (try with_reducible rfl))
          (try simp only [Act.put, List.getElem_toArray, List.getElem_cons_zero, List.getElem_cons_succ, List.setIfInBounds_toArray, List.set_cons_zero, List.set_cons_succ])
          refine wpAnyH_done (by kernel_rfl) ?_ _
        case' more6 =>
         refine AllReadyH.cons (o := ({ dst := some 3, op := .alloc 24, type := 0, pos := "law.go:21", after := #[], guard := none } : Go.Oper)) rfl (fun K hK => ?_) AllReadyH.nil
         go_simp; (first | refine k_allocD (w0 := W3) ?_ (fun hb => ?_) | refine k_alloc (w0 := W3) ?_ (fun hb => ?_)); exact (by with_reducible (repeat (first | exact Ext.rfl_ _ | assumption | refine Ext.drew ?_ | refine Ext.drewN ?_ _ | refine Ext.alloc ?_ _ | refine Ext.trans ?_ (by assumption)))); (try simp only [World.size_alloc] at hb); have HBO := Lib.hid hb.1; have zo := hb.2; clear hb; (try have ALAST := Lib.hid HC4.out)
         refine hK.out _ _ (by exact HS3.out _ (by with_reducible (repeat (first | assumption | exact .rfl_ _ | refine .drew ?_ | refine .alloc ?_ _ | refine .setCell ?_ (by omega) _ | refine .trans ?_ (by assumption))))) (fun _ => ?_)
         clear hK K
         (try simp only [Act.put, List.getElem_toArray, List.getElem_cons_zero, List.getElem_cons_succ, List.setIfInBounds_toArray, List.set_cons_zero, List.set_cons_succ])
         refine wpAnyH_ready (rs := [5]) (by kernel_rfl) (by simp) ?_
         refine AllReadyH.cons (o := ({ dst := some 34, op := .build 28 #[(0, .tmp 30), (1, .tmp 33), (2, .const (.int .i64 4)), (5, .const (.int .i64 3))], type := 28, pos := "law.go:21", after := #[⟨1, .data⟩, ⟨4, .data⟩], guard := none } : Go.Oper)) rfl (fun K hK => ?_) AllReadyH.nil
         go_simp
         refine hK.out _ _ (by exact HS3.out _ (by with_reducible (repeat (first | assumption | exact .rfl_ _ | refine .drew ?_ | refine .alloc ?_ _ | refine .setCell ?_ (by omega) _ | refine .trans ?_ (by assumption))))) (fun _ => ?_)
         clear hK K
         (try simp only [Act.put, List.getElem_toArray, List.getElem_cons_zero, List.getElem_cons_succ, List.setIfInBounds_toArray, List.set_cons_zero, List.set_cons_succ])
         refine wpAnyH_ready (rs := [6]) (by kernel_rfl) (by simp) ?_
         refine AllReadyH.cons (o := ({ dst := some 35, op := .call { callee := .value (.func 7), args := #[.tmp 29, .tmp 34], argTypes := #[24, 28] }, type := 33, pos := "law.go:21", after := #[⟨0, .data⟩, ⟨5, .data⟩, ⟨3, .chain⟩], guard := none } : Go.Oper)) rfl (fun K hK => ?_) AllReadyH.nil
         go_simp; refine (kdo2_any A2 c2 _ _ _ (HR3.out.ext (by with_reducible (repeat (first | exact Ext.rfl_ _ | assumption | refine Ext.drew ?_ | refine Ext.drewN ?_ _ | refine Ext.alloc ?_ _ | refine Ext.trans ?_ (by assumption))))) HC2.out (rdN1 (blkX HDB.out (by with_reducible (repeat (first | exact Ext.rfl_ _ | assumption | refine Ext.drew ?_ | refine Ext.drewN ?_ _ | refine Ext.alloc ?_ _ | refine Ext.trans ?_ (by assumption))))) ⟨by decide, by decide⟩) (HL2.out.ext (by with_reducible (repeat (first | exact Ext.rfl_ _ | assumption | refine Ext.drew ?_ | refine Ext.drewN ?_ _ | refine Ext.alloc ?_ _ | refine Ext.trans ?_ (by assumption)))))).mono ?_; rintro e wd ⟨b4, A4, c4, rfl, ho4, hc4, hx⟩; have HO4 := Lib.hid ho4; have HC4 := Lib.hid hc4; clear hc4 ho4; (try (have HBO := Lib.hid (blkX HBO.out (show Ext _ wd from (by with_reducible (repeat (first | exact Ext.rfl_ _ | assumption | refine Ext.drew ?_ | refine Ext.drewN ?_ _ | refine Ext.alloc ?_ _ | refine Ext.trans ?_ (by assumption)))))))); (try (go_wp2_with fail))
         refine hK.out _ _ (by exact HS3.out _ (by with_reducible (repeat (first | assumption | exact .rfl_ _ | refine .drew ?_ | refine .alloc ?_ _ | refine .setCell ?_ (by omega) _ | refine .trans ?_ (by assumption))))) (fun _ => ?_)
         clear hK K
         refine wpAnyH_take (i := 7) (oi := ({ dst := some 28, op := .move (.tmp 35), type := 33, pos := "law.go:21", after := #[⟨6, .data⟩], guard := none } : Go.Oper)) (v := ?v16) rfl (by kernel_rfl) (by kernel_rfl) (by kernel_rfl) (fun _ _ _ h => h) (Or.inl ⟨by rfl, ?hy16⟩) (by assumption) ?rest16
         case hy16 => (intro w hSw; (try dsimp only at hSw); go_simp; (try with_reducible rfl))
         refine wpAnyH_take (i := 8) (oi := ({ dst := some 36, op := .extract (.tmp 28) 0, type := 24, pos := "law.go:21", after := #[⟨7, .data⟩], guard := none } : Go.Oper)) (v := ?v17) rfl (by kernel_rfl) (by kernel_rfl) (by kernel_rfl) (fun _ _ _ h => h) (Or.inl ⟨by rfl, ?hy17⟩) (by assumption) ?rest17
         case hy17 => (intro w hSw; (try dsimp only at hSw); go_simp; (try with_reducible rfl))
         refine wpAnyH_take (i := 9) (oi := ({ dst := some 37, op := .extract (.tmp 28) 1, type := 29, pos := "law.go:21", after := #[⟨7, .data⟩, ⟨11, .gcOnly .lateStores⟩], guard := none } : Go.Oper)) (v := ?v18) rfl (by kernel_rfl) (by kernel_rfl) (by kernel_rfl) (fun _ _ _ h => h) (Or.inl ⟨by rfl, ?hy18⟩) (by assumption) ?rest18
         case hy18 => (intro w hSw; (try dsimp only at hSw); go_simp; (try with_reducible rfl))
         (try simp only [Act.put, List.getElem_toArray, List.getElem_cons_zero, List.getElem_cons_succ, List.setIfInBounds_toArray, List.set_cons_zero, List.set_cons_succ])
         refine wpAnyH_ready (rs := [11]) (by kernel_rfl) (by simp) ?_
         refine AllReadyH.cons (o := ({ dst := none, op := .store 24 (.tmp 3) (.tmp 36), type := 0, pos := "law.go:21", after := #[⟨10, .data⟩, ⟨8, .data⟩, ⟨6, .chain⟩, ⟨0, .phase⟩, ⟨1, .phase⟩, ⟨2, .phase⟩, ⟨3, .phase⟩, ⟨4, .phase⟩, ⟨5, .phase⟩, ⟨6, .phase⟩, ⟨7, .phase⟩, ⟨8, .phase⟩, ⟨9, .textOnly .lateStores⟩, ⟨10, .phase⟩], guard := none } : Go.Oper)) rfl (fun K hK => ?_) AllReadyH.nil
         obtain ⟨o0, o1, o2, o3, o4, p0, p1, p2, p3, p4⟩ := box5 HBO.out (Ext.rfl_ _); go_simp
         refine hK.out _ _ (by exact HS3.out _ (by with_reducible (repeat (first | assumption | exact .rfl_ _ | refine .drew ?_ | refine .alloc ?_ _ | refine .setCell ?_ (by omega) _ | refine .trans ?_ (by assumption))))) (fun _ => ?_)
         clear hK K
         refine wpAnyH_take (i := 12) (oi := ({ dst := some 2, op := .assign (.tmp 37), type := 29, pos := "law.go:21", after := #[⟨9, .data⟩, ⟨11, .chain⟩, ⟨0, .phase⟩, ⟨1, .phase⟩, ⟨2, .phase⟩, ⟨3, .phase⟩, ⟨4, .phase⟩, ⟨5, .phase⟩, ⟨6, .phase⟩, ⟨7, .phase⟩, ⟨8, .phase⟩, ⟨9, .phase⟩, ⟨10, .phase⟩, ⟨11, .phase⟩], guard := none } : Go.Oper)) (v := ?v19) rfl (by kernel_rfl) (by kernel_rfl) (by kernel_rfl) (fun _ _ _ h => h) (Or.inl ⟨by rfl, ?hy19⟩) (by assumption) ?rest19
         case hy19 => (intro w hSw; (try dsimp only at hSw); go_simp; (try with_reducible rfl))
         (try simp only [Act.put, List.getElem_toArray, List.getElem_cons_zero, List.getElem_cons_succ, List.setIfInBounds_toArray, List.set_cons_zero, List.set_cons_succ])
         refine wpAnyH_done (by kernel_rfl) ?_ _
       case' more5 =>
        refine AllReadyH.cons (o := ({ dst := some 3, op := .alloc 24, type := 0, pos := "law.go:21", after := #[], guard := none } : Go.Oper)) rfl (fun K hK => ?_) AllReadyH.nil
        go_simp; (first | refine k_allocD (w0 := W3) ?_ (fun hb => ?_) | refine k_alloc (w0 := W3) ?_ (fun hb => ?_)); exact (by with_reducible (repeat (first | exact Ext.rfl_ _ | assumption | refine Ext.drew ?_ | refine Ext.drewN ?_ _ | refine Ext.alloc ?_ _ | refine Ext.trans ?_ (by assumption)))); (try simp only [World.size_alloc] at hb); have HBO := Lib.hid hb.1; have zo := hb.2; clear hb; (try have ALAST := Lib.hid HC4.out)
        refine hK.out _ _ (by exact HS3.out _ (by with_reducible (repeat (first | assumption | exact .rfl_ _ | refine .drew ?_ | refine .alloc ?_ _ | refine .setCell ?_ (by omega) _ | refine .trans ?_ (by assumption))))) (fun _ => ?_)
        clear hK K
        (try simp only [Act.put, List.getElem_toArray, List.getElem_cons_zero, List.getElem_cons_succ, List.setIfInBounds_toArray, List.set_cons_zero, List.set_cons_succ])
        refine wpAnyH_ready (rs := [4]) (by kernel_rfl) (by simp) ?_
        refine AllReadyH.cons (o := ({ dst := some 33, op := .buildSlice 22 2 #[(0, .tmp 31), (1, .tmp 32)], type := 22, pos := "law.go:21", after := #[⟨2, .data⟩, ⟨3, .data⟩], guard := none } : Go.Oper)) rfl (fun K hK => ?_) AllReadyH.nil
        go_simp; (first | refine k_allocD (w0 := W3) ?_ (fun hb => ?_) | refine k_alloc (w0 := W3) ?_ (fun hb => ?_)); exact (by with_reducible (repeat (first | exact Ext.rfl_ _ | assumption | refine Ext.drew ?_ | refine Ext.drewN ?_ _ | refine Ext.alloc ?_ _ | refine Ext.trans ?_ (by assumption)))); (try simp only [World.size_alloc] at hb); have HL2 := Lib.hid (rdT2 (t := kt3) (t' := kt2) hb.1 rfl rfl rfl rfl rfl rfl (HT3.out.ext (by with_reducible (repeat (first | exact Ext.rfl_ _ | assumption | refine Ext.drew ?_ | refine Ext.drewN ?_ _ | refine Ext.alloc ?_ _ | refine Ext.trans ?_ (by assumption))))) (HT2.out.ext (by with_reducible (repeat (first | exact Ext.rfl_ _ | assumption | refine Ext.drew ?_ | refine Ext.drewN ?_ _ | refine Ext.alloc ?_ _ | refine Ext.trans ?_ (by assumption)))))); clear hb
        refine hK.out _ _ (by exact HS3.out _ (by with_reducible (repeat (first | assumption | exact .rfl_ _ | refine .drew ?_ | refine .alloc ?_ _ | refine .setCell ?_ (by omega) _ | refine .trans ?_ (by assumption))))) (fun _ => ?_)
        clear hK K
        (try simp only [Act.put, List.getElem_toArray, List.getElem_cons_zero, List.getElem_cons_succ, List.setIfInBounds_toArray, List.set_cons_zero, List.set_cons_succ])
        refine wpAnyH_ready (rs := [5]) (by kernel_rfl) (by simp) ?_
        refine AllReadyH.cons (o := ({ dst := some 34, op := .build 28 #[(0, .tmp 30), (1, .tmp 33), (2, .const (.int .i64 4)), (5, .const (.int .i64 3))], type := 28, pos := "law.go:21", after := #[⟨1, .data⟩, ⟨4, .data⟩], guard := none } : Go.Oper)) rfl (fun K hK => ?_) AllReadyH.nil
        go_simp
        refine hK.out _ _ (by exact HS3.out _ (by with_reducible (repeat (first | assumption | exact .rfl_ _ | refine .drew ?_ | refine .alloc ?_ _ | refine .setCell ?_ (by omega) _ | refine .trans ?_ (by assumption))))) (fun _ => ?_)
        clear hK K
        (try simp only [Act.put, List.getElem_toArray, List.getElem_cons_zero, List.getElem_cons_succ, List.setIfInBounds_toArray, List.set_cons_zero, List.set_cons_succ])
        refine wpAnyH_ready (rs := [6]) (by kernel_rfl) (by simp) ?_
        refine AllReadyH.cons (o := ({ dst := some 35, op := .call { callee := .value (.func 7), args := #[.tmp 29, .tmp 34], argTypes := #[24, 28] }, type := 33, pos := "law.go:21", after := #[⟨0, .data⟩, ⟨5, .data⟩, ⟨3, .chain⟩], guard := none } : Go.Oper)) rfl (fun K hK => ?_) AllReadyH.nil
        go_simp; refine (kdo2_any A2 c2 _ _ _ (HR3.out.ext (by with_reducible (repeat (first | exact Ext.rfl_ _ | assumption | refine Ext.drew ?_ | refine Ext.drewN ?_ _ | refine Ext.alloc ?_ _ | refine Ext.trans ?_ (by assumption))))) HC2.out (rdN1 (blkX HDB.out (by with_reducible (repeat (first | exact Ext.rfl_ _ | assumption | refine Ext.drew ?_ | refine Ext.drewN ?_ _ | refine Ext.alloc ?_ _ | refine Ext.trans ?_ (by assumption))))) ⟨by decide, by decide⟩) (HL2.out.ext (by with_reducible (repeat (first | exact Ext.rfl_ _ | assumption | refine Ext.drew ?_ | refine Ext.drewN ?_ _ | refine Ext.alloc ?_ _ | refine Ext.trans ?_ (by assumption)))))).mono ?_; rintro e wd ⟨b4, A4, c4, rfl, ho4, hc4, hx⟩; have HO4 := Lib.hid ho4; have HC4 := Lib.hid hc4; clear hc4 ho4; (try (have HBO := Lib.hid (blkX HBO.out (show Ext _ wd from (by with_reducible (repeat (first | exact Ext.rfl_ _ | assumption | refine Ext.drew ?_ | refine Ext.drewN ?_ _ | refine Ext.alloc ?_ _ | refine Ext.trans ?_ (by assumption)))))))); (try (go_wp2_with fail))
        refine hK.out _ _ (by exact HS3.out _ (by with_reducible (repeat (first | assumption | exact .rfl_ _ | refine .drew ?_ | refine .alloc ?_ _ | refine .setCell ?_ (by omega) _ | refine .trans ?_ (by assumption))))) (fun _ => ?_)
        clear hK K
        refine wpAnyH_take (i := 7) (oi := ({ dst := some 28, op := .move (.tmp 35), type := 33, pos := "law.go:21", after := #[⟨6, .data⟩], guard := none } : Go.Oper)) (v := ?v20) rfl (by kernel_rfl) (by kernel_rfl) (by kernel_rfl) (fun _ _ _ h => h) (Or.inl ⟨by rfl, ?hy20⟩) (by assumption) ?rest20
        case hy20 => (intro w hSw; (try dsimp only at hSw); go_simp; (try with_reducible rfl))
        refine wpAnyH_take (i := 8) (oi := ({ dst := some 36, op := .extract (.tmp 28) 0, type := 24, pos := "law.go:21", after := #[⟨7, .data⟩], guard := none } : Go.Oper)) (v := ?v21) rfl (by kernel_rfl) (by kernel_rfl) (by kernel_rfl) (fun _ _ _ h => h) (Or.inl ⟨by rfl, ?hy21⟩) (by assumption) ?rest21
        case hy21 => (intro w hSw; (try dsimp only at hSw); go_simp; (try with_reducible rfl))
        refine wpAnyH_take (i := 9) (oi := ({ dst := some 37, op := .extract (.tmp 28) 1, type := 29, pos := "law.go:21", after := #[⟨7, .data⟩, ⟨11, .gcOnly .lateStores⟩], guard := none } : Go.Oper)) (v := ?v22) rfl (by kernel_rfl) (by kernel_rfl) (by kernel_rfl) (fun _ _ _ h => h) (Or.inl ⟨by rfl, ?hy22⟩) (by assumption) ?rest22
        case hy22 => (intro w hSw; (try dsimp only at hSw); go_simp; (try with_reducible rfl))
        (try simp only [Act.put, List.getElem_toArray, List.getElem_cons_zero, List.getElem_cons_succ, List.setIfInBounds_toArray, List.set_cons_zero, List.set_cons_succ])
        refine wpAnyH_ready (rs := [11]) (by kernel_rfl) (by simp) ?_
        refine AllReadyH.cons (o := ({ dst := none, op := .store 24 (.tmp 3) (.tmp 36), type := 0, pos := "law.go:21", after := #[⟨10, .data⟩, ⟨8, .data⟩, ⟨6, .chain⟩, ⟨0, .phase⟩, ⟨1, .phase⟩, ⟨2, .phase⟩, ⟨3, .phase⟩, ⟨4, .phase⟩, ⟨5, .phase⟩, ⟨6, .phase⟩, ⟨7, .phase⟩, ⟨8, .phase⟩, ⟨9, .textOnly .lateStores⟩, ⟨10, .phase⟩], guard := none } : Go.Oper)) rfl (fun K hK => ?_) AllReadyH.nil
        obtain ⟨o0, o1, o2, o3, o4, p0, p1, p2, p3, p4⟩ := box5 HBO.out (Ext.rfl_ _); go_simp
        refine hK.out _ _ (by exact HS3.out _ (by with_reducible (repeat (first | assumption | exact .rfl_ _ | refine .drew ?_ | refine .alloc ?_ _ | refine .setCell ?_ (by omega) _ | refine .trans ?_ (by assumption))))) (fun _ => ?_)
        clear hK K
        refine wpAnyH_take (i := 12) (oi := ({ dst := some 2, op := .assign (.tmp 37), type := 29, pos := "law.go:21", after := #[⟨9, .data⟩, ⟨11, .chain⟩, ⟨0, .phase⟩, ⟨1, .phase⟩, ⟨2, .phase⟩, ⟨3, .phase⟩, ⟨4, .phase⟩, ⟨5, .phase⟩, ⟨6, .phase⟩, ⟨7, .phase⟩, ⟨8, .phase⟩, ⟨9, .phase⟩, ⟨10, .phase⟩, ⟨11, .phase⟩], guard := none } : Go.Oper)) (v := ?v23) rfl (by kernel_rfl) (by kernel_rfl) (by kernel_rfl) (fun _ _ _ h => h) (Or.inl ⟨by rfl, ?hy23⟩) (by assumption) ?rest23
        case hy23 => (intro w hSw; (try dsimp only at hSw); go_simp; (try with_reducible rfl))
        (try simp only [Act.put, List.getElem_toArray, List.getElem_cons_zero, List.getElem_cons_succ, List.setIfInBounds_toArray, List.set_cons_zero, List.set_cons_succ])
        refine wpAnyH_done (by kernel_rfl) ?_ _
      case' more4 =>
       refine AllReadyH.cons (o := ({ dst := some 3, op := .alloc 24, type := 0, pos := "law.go:21", after := #[], guard := none } : Go.Oper)) rfl (fun K hK => ?_) AllReadyH.nil
       go_simp; (first | refine k_allocD (w0 := W3) ?_ (fun hb => ?_) | refine k_alloc (w0 := W3) ?_ (fun hb => ?_)); exact (by with_reducible (repeat (first | exact Ext.rfl_ _ | assumption | refine Ext.drew ?_ | refine Ext.drewN ?_ _ | refine Ext.alloc ?_ _ | refine Ext.trans ?_ (by assumption)))); (try simp only [World.size_alloc] at hb); have HBO := Lib.hid hb.1; have zo := hb.2; clear hb; (try have ALAST := Lib.hid HC4.out)
       refine hK.out _ _ (by exact HS3.out _ (by with_reducible (repeat (first | assumption | exact .rfl_ _ | refine .drew ?_ | refine .alloc ?_ _ | refine .setCell ?_ (by omega) _ | refine .trans ?_ (by assumption))))) (fun _ => ?_)
       clear hK K
       (try simp only [Act.put, List.getElem_toArray, List.getElem_cons_zero, List.getElem_cons_succ, List.setIfInBounds_toArray, List.set_cons_zero, List.set_cons_succ])
       refine wpAnyH_ready (rs := [3]) (by kernel_rfl) (by simp) ?_
       refine AllReadyH.cons (o := ({ dst := some 32, op := .call { callee := .value (.func 11), args := #[.const (.int .i64 2), .const (.int .i64 1), .const (.int .u8 97), .const (.int .u8 98)], argTypes := #[2, 3, 5, 5] }, type := 42, pos := "law.go:21", after := #[⟨2, .chain⟩], guard := none } : Go.Oper)) rfl (fun K hK => ?_) AllReadyH.nil
       go_simp; refine (ltab_any 2 1 97 98 _ ⟨by decide, by decide⟩ ⟨by decide, by decide⟩).mono ?_; rintro e wt2 ⟨At2, ct2, Bt2, dt2, rfl, hrt2, hwt2⟩; have HT2 := Lib.hid (show RdT wt2 _ kt2 from hrt2); clear hrt2; (try (have HBO := Lib.hid (blkX HBO.out (show Ext _ wt2 from (by with_reducible (repeat (first | exact Ext.rfl_ _ | assumption | refine Ext.drew ?_ | refine Ext.drewN ?_ _ | refine Ext.alloc ?_ _ | refine Ext.trans ?_ (by assumption)))))))); (try (go_wp2_with fail))
       refine hK.out _ _ (by exact HS3.out _ (by with_reducible (repeat (first | assumption | exact .rfl_ _ | refine .drew ?_ | refine .alloc ?_ _ | refine .setCell ?_ (by omega) _ | refine .trans ?_ (by assumption))))) (fun _ => ?_)
       clear hK K
       (try simp only [Act.put, List.getElem_toArray, List.getElem_cons_zero, List.getElem_cons_succ, List.setIfInBounds_toArray, List.set_cons_zero, List.set_cons_succ])
       refine wpAnyH_ready (rs := [4]) (by kernel_rfl) (by simp) ?_
       refine AllReadyH.cons (o := ({ dst := some 33, op := .buildSlice 22 2 #[(0, .tmp 31), (1, .tmp 32)], type := 22, pos := "law.go:21", after := #[⟨2, .data⟩, ⟨3, .data⟩], guard := none } : Go.Oper)) rfl (fun K hK => ?_) AllReadyH.nil
       go_simp; (first | refine k_allocD (w0 := W3) ?_ (fun hb => ?_) | refine k_alloc (w0 := W3) ?_ (fun hb => ?_)); exact (by with_reducible (repeat (first | exact Ext.rfl_ _ | assumption | refine Ext.drew ?_ | refine Ext.drewN ?_ _ | refine Ext.alloc ?_ _ | refine Ext.trans ?_ (by assumption)))); (try simp only [World.size_alloc] at hb); have HL2 := Lib.hid (rdT2 (t := kt3) (t' := kt2) hb.1 rfl rfl rfl rfl rfl rfl (HT3.out.ext (by with_reducible (repeat (first | exact Ext.rfl_ _ | assumption | refine Ext.drew ?_ | refine Ext.drewN ?_ _ | refine Ext.alloc ?_ _ | refine Ext.trans ?_ (by assumption))))) (HT2.out.ext (by with_reducible (repeat (first | exact Ext.rfl_ _ | assumption | refine Ext.drew ?_ | refine Ext.drewN ?_ _ | refine Ext.alloc ?_ _ | refine Ext.trans ?_ (by assumption)))))); clear hb
       refine hK.out _ _ (by exact HS3.out _ (by with_reducible (repeat (first | assumption | exact .rfl_ _ | refine .drew ?_ | refine .alloc ?_ _ | refine .setCell ?_ (by omega) _ | refine .trans ?_ (by assumption))))) (fun _ => ?_)
       clear hK K
       (try simp only [Act.put, List.getElem_toArray, List.getElem_cons_zero, List.getElem_cons_succ, List.setIfInBounds_toArray, List.set_cons_zero, List.set_cons_succ])
       refine wpAnyH_ready (rs := [5]) (by kernel_rfl) (by simp) ?_
       refine AllReadyH.cons (o := ({ dst := some 34, op := .build 28 #[(0, .tmp 30), (1, .tmp 33), (2, .const (.int .i64 4)), (5, .const (.int .i64 3))], type := 28, pos := "law.go:21", after := #[⟨1, .data⟩, ⟨4, .data⟩], guard := none } : Go.Oper)) rfl (fun K hK => ?_) AllReadyH.nil
       go_simp
       refine hK.out _ _ (by exact HS3.out _ (by with_reducible (repeat (first | assumption | exact .rfl_ _ | refine .drew ?_ | refine .alloc ?_ _ | refine .setCell ?_ (by omega) _ | refine .trans ?_ (by assumption))))) (fun _ => ?_)
       clear hK K
       (try simp only [Act.put, List.getElem_toArray, List.getElem_cons_zero, List.getElem_cons_succ, List.setIfInBounds_toArray, List.set_cons_zero, List.set_cons_succ])
       refine wpAnyH_ready (rs := [6]) (by kernel_rfl) (by simp) ?_
       refine AllReadyH.cons (o := ({ dst := some 35, op := .call { callee := .value (.func 7), args := #[.tmp 29, .tmp 34], argTypes := #[24, 28] }, type := 33, pos := "law.go:21", after := #[⟨0, .data⟩, ⟨5, .data⟩, ⟨3, .chain⟩], guard := none } : Go.Oper)) rfl (fun K hK => ?_) AllReadyH.nil
       go_simp; refine (kdo2_any A2 c2 _ _ _ (HR3.out.ext (by with_reducible (repeat (first | exact Ext.rfl_ _ | assumption | refine Ext.drew ?_ | refine Ext.drewN ?_ _ | refine Ext.alloc ?_ _ | refine Ext.trans ?_ (by assumption))))) HC2.out (rdN1 (blkX HDB.out (by with_reducible (repeat (first | exact Ext.rfl_ _ | assumption | refine Ext.drew ?_ | refine Ext.drewN ?_ _ | refine Ext.alloc ?_ _ | refine Ext.trans ?_ (by assumption))))) ⟨by decide, by decide⟩) (HL2.out.ext (by with_reducible (repeat (first | exact Ext.rfl_ _ | assumption | refine Ext.drew ?_ | refine Ext.drewN ?_ _ | refine Ext.alloc ?_ _ | refine Ext.trans ?_ (by assumption)))))).mono ?_; rintro e wd ⟨b4, A4, c4, rfl, ho4, hc4, hx⟩; have HO4 := Lib.hid ho4; have HC4 := Lib.hid hc4; clear hc4 ho4; (try (have HBO := Lib.hid (blkX HBO.out (show Ext _ wd from (by with_reducible (repeat (first | exact Ext.rfl_ _ | assumption | refine Ext.drew ?_ | refine Ext.drewN ?_ _ | refine Ext.alloc ?_ _ | refine Ext.trans ?_ (by assumption)))))))); (try (go_wp2_with fail))
       refine hK.out _ _ (by exact HS3.out _ (by with_reducible (repeat (first | assumption | exact .rfl_ _ | refine .drew ?_ | refine .alloc ?_ _ | refine .setCell ?_ (by omega) _ | refine .trans ?_ (by assumption))))) (fun _ => ?_)
       clear hK K
       refine wpAnyH_take (i := 7) (oi := ({ dst := some 28, op := .move (.tmp 35), type := 33, pos := "law.go:21", after := #[⟨6, .data⟩], guard := none } : Go.Oper)) (v := ?v24) rfl (by kernel_rfl) (by kernel_rfl) (by kernel_rfl) (fun _ _ _ h => h) (Or.inl ⟨by rfl, ?hy24⟩) (by assumption) ?rest24
       case hy24 => (intro w hSw; (try dsimp only at hSw); go_simp; (try with_reducible rfl))
       refine wpAnyH_take (i := 8) (oi := ({ dst := some 36, op := .extract (.tmp 28) 0, type := 24, pos := "law.go:21", after := #[⟨7, .data⟩], guard := none } : Go.Oper)) (v := ?v25) rfl (by kernel_rfl) (by kernel_rfl) (by kernel_rfl) (fun _ _ _ h => h) (Or.inl ⟨by rfl, ?hy25⟩) (by assumption) ?rest25
       case hy25 => (intro w hSw; (try dsimp only at hSw); go_simp; (try with_reducible rfl))
       refine wpAnyH_take (i := 9) (oi := ({ dst := some 37, op := .extract (.tmp 28) 1, type := 29, pos := "law.go:21", after := #[⟨7, .data⟩, ⟨11, .gcOnly .lateStores⟩], guard := none } : Go.Oper)) (v := ?v26) rfl (by kernel_rfl) (by kernel_rfl) (by kernel_rfl) (fun _ _ _ h => h) (Or.inl ⟨by rfl, ?hy26⟩) (by assumption) ?rest26
       case hy26 => (intro w hSw; (try dsimp only at hSw); go_simp; (try with_reducible rfl))
       (try simp only [Act.put, List.getElem_toArray, List.getElem_cons_zero, List.getElem_cons_succ, List.setIfInBounds_toArray, List.set_cons_zero, List.set_cons_succ])
       refine wpAnyH_ready (rs := [11]) (by kernel_rfl) (by simp) ?_
       refine AllReadyH.cons (o := ({ dst := none, op := .store 24 (.tmp 3) (.tmp 36), type := 0, pos := "law.go:21", after := #[⟨10, .data⟩, ⟨8, .data⟩, ⟨6, .chain⟩, ⟨0, .phase⟩, ⟨1, .phase⟩, ⟨2, .phase⟩, ⟨3, .phase⟩, ⟨4, .phase⟩, ⟨5, .phase⟩, ⟨6, .phase⟩, ⟨7, .phase⟩, ⟨8, .phase⟩, ⟨9, .textOnly .lateStores⟩, ⟨10, .phase⟩], guard := none } : Go.Oper)) rfl (fun K hK => ?_) AllReadyH.nil
       obtain ⟨o0, o1, o2, o3, o4, p0, p1, p2, p3, p4⟩ := box5 HBO.out (Ext.rfl_ _); go_simp
       refine hK.out _ _ (by exact HS3.out _ (by with_reducible (repeat (first | assumption | exact .rfl_ _ | refine .drew ?_ | refine .alloc ?_ _ | refine .setCell ?_ (by omega) _ | refine .trans ?_ (by assumption))))) (fun _ => ?_)
       clear hK K
       refine wpAnyH_take (i := 12) (oi := ({ dst := some 2, op := .assign (.tmp 37), type := 29, pos := "law.go:21", after := #[⟨9, .data⟩, ⟨11, .chain⟩, ⟨0, .phase⟩, ⟨1, .phase⟩, ⟨2, .phase⟩, ⟨3, .phase⟩, ⟨4, .phase⟩, ⟨5, .phase⟩, ⟨6, .phase⟩, ⟨7, .phase⟩, ⟨8, .phase⟩, ⟨9, .phase⟩, ⟨10, .phase⟩, ⟨11, .phase⟩], guard := none } : Go.Oper)) (v := ?v27) rfl (by kernel_rfl) (by kernel_rfl) (by kernel_rfl) (fun _ _ _ h => h) (Or.inl ⟨by rfl, ?hy27⟩) (by assumption) ?rest27
       case hy27 => (intro w hSw; (try dsimp only at hSw); go_simp; (try with_reducible rfl))
       (try simp only [Act.put, List.getElem_toArray, List.getElem_cons_zero, List.getElem_cons_succ, List.setIfInBounds_toArray, List.set_cons_zero, List.set_cons_succ])
       refine wpAnyH_done (by kernel_rfl) ?_ _
     case' more3 =>
      refine AllReadyH.cons (o := ({ dst := some 3, op := .alloc 24, type := 0, pos := "law.go:21", after := #[], guard := none } : Go.Oper)) rfl (fun K hK => ?_) AllReadyH.nil
      go_simp; (first | refine k_allocD (w0 := W3) ?_ (fun hb => ?_) | refine k_alloc (w0 := W3) ?_ (fun hb => ?_)); exact (by with_reducible (repeat (first | exact Ext.rfl_ _ | assumption | refine Ext.drew ?_ | refine Ext.drewN ?_ _ | refine Ext.alloc ?_ _ | refine Ext.trans ?_ (by assumption)))); (try simp only [World.size_alloc] at hb); have HBO := Lib.hid hb.1; have zo := hb.2; clear hb; (try have ALAST := Lib.hid HC4.out)
      refine hK.out _ _ (by exact HS3.out _ (by with_reducible (repeat (first | assumption | exact .rfl_ _ | refine .drew ?_ | refine .alloc ?_ _ | refine .setCell ?_ (by omega) _ | refine .trans ?_ (by assumption))))) (fun _ => ?_)
      clear hK K
      (try simp only [Act.put, List.getElem_toArray, List.getElem_cons_zero, List.getElem_cons_succ, List.setIfInBounds_toArray, List.set_cons_zero, List.set_cons_succ])
      refine wpAnyH_ready (rs := [2]) (by kernel_rfl) (by simp) ?_
      refine AllReadyH.cons (o := ({ dst := some 31, op := .call { callee := .value (.func 11), args := #[.const (.int .i64 3), .const (.int .i64 1), .const (.int .u8 99), .const (.int .u8 99)], argTypes := #[2, 3, 5, 5] }, type := 42, pos := "law.go:21", after := #[], guard := none } : Go.Oper)) rfl (fun K hK => ?_) AllReadyH.nil
      go_simp; refine (ltab_any 3 1 99 99 _ ⟨by decide, by decide⟩ ⟨by decide, by decide⟩).mono ?_; rintro e wt3 ⟨At3, ct3, Bt3, dt3, rfl, hrt3, hwt3⟩; have HT3 := Lib.hid (show RdT wt3 _ kt3 from hrt3); clear hrt3; (try (have HBO := Lib.hid (blkX HBO.out (show Ext _ wt3 from (by with_reducible (repeat (first | exact Ext.rfl_ _ | assumption | refine Ext.drew ?_ | refine Ext.drewN ?_ _ | refine Ext.alloc ?_ _ | refine Ext.trans ?_ (by assumption)))))))); (try (go_wp2_with fail))
      refine hK.out _ _ (by exact HS3.out _ (by with_reducible (repeat (first | assumption | exact .rfl_ _ | refine .drew ?_ | refine .alloc ?_ _ | refine .setCell ?_ (by omega) _ | refine .trans ?_ (by assumption))))) (fun _ => ?_)
      clear hK K
      (try simp only [Act.put, List.getElem_toArray, List.getElem_cons_zero, List.getElem_cons_succ, List.setIfInBounds_toArray, List.set_cons_zero, List.set_cons_succ])
      refine wpAnyH_ready (rs := [3]) (by kernel_rfl) (by simp) ?_
      refine AllReadyH.cons (o := ({ dst := some 32, op := .call { callee := .value (.func 11), args := #[.const (.int .i64 2), .const (.int .i64 1), .const (.int .u8 97), .const (.int .u8 98)], argTypes := #[2, 3, 5, 5] }, type := 42, pos := "law.go:21", after := #[⟨2, .chain⟩], guard := none } : Go.Oper)) rfl (fun K hK => ?_) AllReadyH.nil
      go_simp; refine (ltab_any 2 1 97 98 _ ⟨by decide, by decide⟩ ⟨by decide, by decide⟩).mono ?_; rintro e wt2 ⟨At2, ct2, Bt2, dt2, rfl, hrt2, hwt2⟩; have HT2 := Lib.hid (show RdT wt2 _ kt2 from hrt2); clear hrt2; (try (have HBO := Lib.hid (blkX HBO.out (show Ext _ wt2 from (by with_reducible (repeat (first | exact Ext.rfl_ _ | assumption | refine Ext.drew ?_ | refine Ext.drewN ?_ _ | refine Ext.alloc ?_ _ | refine Ext.trans ?_ (by assumption)))))))); (try (go_wp2_with fail))
      refine hK.out _ _ (by exact HS3.out _ (by with_reducible (repeat (first | assumption | exact .rfl_ _ | refine .drew ?_ | refine .alloc ?_ _ | refine .setCell ?_ (by omega) _ | refine .trans ?_ (by assumption))))) (fun _ => ?_)
      clear hK K
      (try simp only [Act.put, List.getElem_toArray, List.getElem_cons_zero, List.getElem_cons_succ, List.setIfInBounds_toArray, List.set_cons_zero, List.set_cons_succ])
      refine wpAnyH_ready (rs := [4]) (by kernel_rfl) (by simp) ?_
      refine AllReadyH.cons (o := ({ dst := some 33, op := .buildSlice 22 2 #[(0, .tmp 31), (1, .tmp 32)], type := 22, pos := "law.go:21", after := #[⟨2, .data⟩, ⟨3, .data⟩], guard := none } : Go.Oper)) rfl (fun K hK => ?_) AllReadyH.nil
      go_simp; (first | refine k_allocD (w0 := W3) ?_ (fun hb => ?_) | refine k_alloc (w0 := W3) ?_ (fun hb => ?_)); exact (by with_reducible (repeat (first | exact Ext.rfl_ _ | assumption | refine Ext.drew ?_ | refine Ext.drewN ?_ _ | refine Ext.alloc ?_ _ | refine Ext.trans ?_ (by assumption)))); (try simp only [World.size_alloc] at hb); have HL2 := Lib.hid (rdT2 (t := kt3) (t' := kt2) hb.1 rfl rfl rfl rfl rfl rfl (HT3.out.ext (by with_reducible (repeat (first | exact Ext.rfl_ _ | assumption | refine Ext.drew ?_ | refine Ext.drewN ?_ _ | refine Ext.alloc ?_ _ | refine Ext.trans ?_ (by assumption))))) (HT2.out.ext (by with_reducible (repeat (first | exact Ext.rfl_ _ | assumption | refine Ext.drew ?_ | refine Ext.drewN ?_ _ | refine Ext.alloc ?_ _ | refine Ext.trans ?_ (by assumption)))))); clear hb
      refine hK.out _ _ (by exact HS3.out _ (by with_reducible (repeat (first | assumption | exact .rfl_ _ | refine .drew ?_ | refine .alloc ?_ _ | refine .setCell ?_ (by omega) _ | refine .trans ?_ (by assumption))))) (fun _ => ?_)
      clear hK K
      (try simp only [Act.put, List.getElem_toArray, List.getElem_cons_zero, List.getElem_cons_succ, List.setIfInBounds_toArray, List.set_cons_zero, List.set_cons_succ])
      refine wpAnyH_ready (rs := [5]) (by kernel_rfl) (by simp) ?_
      refine AllReadyH.cons (o := ({ dst := some 34, op := .build 28 #[(0, .tmp 30), (1, .tmp 33), (2, .const (.int .i64 4)), (5, .const (.int .i64 3))], type := 28, pos := "law.go:21", after := #[⟨1, .data⟩, ⟨4, .data⟩], guard := none } : Go.Oper)) rfl (fun K hK => ?_) AllReadyH.nil
      go_simp
      refine hK.out _ _ (by exact HS3.out _ (by with_reducible (repeat (first | assumption | exact .rfl_ _ | refine .drew ?_ | refine .alloc ?_ _ | refine .setCell ?_ (by omega) _ | refine .trans ?_ (by assumption))))) (fun _ => ?_)
      clear hK K
      (try simp only [Act.put, List.getElem_toArray, List.getElem_cons_zero, List.getElem_cons_succ, List.setIfInBounds_toArray, List.set_cons_zero, List.set_cons_succ])
      refine wpAnyH_ready (rs := [6]) (by kernel_rfl) (by simp) ?_
      refine AllReadyH.cons (o := ({ dst := some 35, op := .call { callee := .value (.func 7), args := #[.tmp 29, .tmp 34], argTypes := #[24, 28] }, type := 33, pos := "law.go:21", after := #[⟨0, .data⟩, ⟨5, .data⟩, ⟨3, .chain⟩], guard := none } : Go.Oper)) rfl (fun K hK => ?_) AllReadyH.nil
      go_simp; refine (kdo2_any A2 c2 _ _ _ (HR3.out.ext (by with_reducible (repeat (first | exact Ext.rfl_ _ | assumption | refine Ext.drew ?_ | refine Ext.drewN ?_ _ | refine Ext.alloc ?_ _ | refine Ext.trans ?_ (by assumption))))) HC2.out (rdN1 (blkX HDB.out (by with_reducible (repeat (first | exact Ext.rfl_ _ | assumption | refine Ext.drew ?_ | refine Ext.drewN ?_ _ | refine Ext.alloc ?_ _ | refine Ext.trans ?_ (by assumption))))) ⟨by decide, by decide⟩) (HL2.out.ext (by with_reducible (repeat (first | exact Ext.rfl_ _ | assumption | refine Ext.drew ?_ | refine Ext.drewN ?_ _ | refine Ext.alloc ?_ _ | refine Ext.trans ?_ (by assumption)))))).mono ?_; rintro e wd ⟨b4, A4, c4, rfl, ho4, hc4, hx⟩; have HO4 := Lib.hid ho4; have HC4 := Lib.hid hc4; clear hc4 ho4; (try (have HBO := Lib.hid (blkX HBO.out (show Ext _ wd from (by with_reducible (repeat (first | exact Ext.rfl_ _ | assumption | refine Ext.drew ?_ | refine Ext.drewN ?_ _ | refine Ext.alloc ?_ _ | refine Ext.trans ?_ (by assumption)))))))); (try (go_wp2_with fail))
      refine hK.out _ _ (by exact HS3.out _ (by with_reducible (repeat (first | assumption | exact .rfl_ _ | refine .drew ?_ | refine .alloc ?_ _ | refine .setCell ?_ (by omega) _ | refine .trans ?_ (by assumption))))) (fun _ => ?_)
      clear hK K
      refine wpAnyH_take (i := 7) (oi := ({ dst := some 28, op := .move (.tmp 35), type := 33, pos := "law.go:21", after := #[⟨6, .data⟩], guard := none } : Go.Oper)) (v := ?v28) rfl (by kernel_rfl) (by kernel_rfl) (by kernel_rfl) (fun _ _ _ h => h) (Or.inl ⟨by rfl, ?hy28⟩) (by assumption) ?rest28
      case hy28 => (intro w hSw; (try dsimp only at hSw); go_simp; (try with_reducible rfl))
      refine wpAnyH_take (i := 8) (oi := ({ dst := some 36, op := .extract (.tmp 28) 0, type := 24, pos := "law.go:21", after := #[⟨7, .data⟩], guard := none } : Go.Oper)) (v := ?v29) rfl (by kernel_rfl) (by kernel_rfl) (by kernel_rfl) (fun _ _ _ h => h) (Or.inl ⟨by rfl, ?hy29⟩) (by assumption) ?rest29
      case hy29 => (intro w hSw; (try dsimp only at hSw); go_simp; (try with_reducible rfl))
      refine wpAnyH_take (i := 9) (oi := ({ dst := some 37, op := .extract (.tmp 28) 1, type := 29, pos := "law.go:21", after := #[⟨7, .data⟩, ⟨11, .gcOnly .lateStores⟩], guard := none } : Go.Oper)) (v := ?v30) rfl (by kernel_rfl) (by kernel_rfl) (by kernel_rfl) (fun _ _ _ h => h) (Or.inl ⟨by rfl, ?hy30⟩) (by assumption) ?rest30
      case hy30 => (intro w hSw; (try dsimp only at hSw); go_simp; (try with_reducible rfl))
      (try simp only [Act.put, List.getElem_toArray, List.getElem_cons_zero, List.getElem_cons_succ, List.setIfInBounds_toArray, List.set_cons_zero, List.set_cons_succ])
      refine wpAnyH_ready (rs := [11]) (by kernel_rfl) (by simp) ?_
      refine AllReadyH.cons (o := ({ dst := none, op := .store 24 (.tmp 3) (.tmp 36), type := 0, pos := "law.go:21", after := #[⟨10, .data⟩, ⟨8, .data⟩, ⟨6, .chain⟩, ⟨0, .phase⟩, ⟨1, .phase⟩, ⟨2, .phase⟩, ⟨3, .phase⟩, ⟨4, .phase⟩, ⟨5, .phase⟩, ⟨6, .phase⟩, ⟨7, .phase⟩, ⟨8, .phase⟩, ⟨9, .textOnly .lateStores⟩, ⟨10, .phase⟩], guard := none } : Go.Oper)) rfl (fun K hK => ?_) AllReadyH.nil
      obtain ⟨o0, o1, o2, o3, o4, p0, p1, p2, p3, p4⟩ := box5 HBO.out (Ext.rfl_ _); go_simp
      refine hK.out _ _ (by exact HS3.out _ (by with_reducible (repeat (first | assumption | exact .rfl_ _ | refine .drew ?_ | refine .alloc ?_ _ | refine .setCell ?_ (by omega) _ | refine .trans ?_ (by assumption))))) (fun _ => ?_)
      clear hK K
      refine wpAnyH_take (i := 12) (oi := ({ dst := some 2, op := .assign (.tmp 37), type := 29, pos := "law.go:21", after := #[⟨9, .data⟩, ⟨11, .chain⟩, ⟨0, .phase⟩, ⟨1, .phase⟩, ⟨2, .phase⟩, ⟨3, .phase⟩, ⟨4, .phase⟩, ⟨5, .phase⟩, ⟨6, .phase⟩, ⟨7, .phase⟩, ⟨8, .phase⟩, ⟨9, .phase⟩, ⟨10, .phase⟩, ⟨11, .phase⟩], guard := none } : Go.Oper)) (v := ?v31) rfl (by kernel_rfl) (by kernel_rfl) (by kernel_rfl) (fun _ _ _ h => h) (Or.inl ⟨by rfl, ?hy31⟩) (by assumption) ?rest31
      case hy31 => (intro w hSw; (try dsimp only at hSw); go_simp; (try with_reducible rfl))
      (try simp only [Act.put, List.getElem_toArray, List.getElem_cons_zero, List.getElem_cons_succ, List.setIfInBounds_toArray, List.set_cons_zero, List.set_cons_succ])
      refine wpAnyH_done (by kernel_rfl) ?_ _
    case' more2 =>
     refine AllReadyH.cons (o := ({ dst := some 31, op := .call { callee := .value (.func 11), args := #[.const (.int .i64 3), .const (.int .i64 1), .const (.int .u8 99), .const (.int .u8 99)], argTypes := #[2, 3, 5, 5] }, type := 42, pos := "law.go:21", after := #[], guard := none } : Go.Oper)) rfl (fun K hK => ?one32) ?more32
     case' one32 =>
      go_simp; refine (ltab_any 3 1 99 99 _ ⟨by decide, by decide⟩ ⟨by decide, by decide⟩).mono ?_; rintro e wt3 ⟨At3, ct3, Bt3, dt3, rfl, hrt3, hwt3⟩; have HT3 := Lib.hid (show RdT wt3 _ kt3 from hrt3); clear hrt3; (try (have HBO := Lib.hid (blkX HBO.out (show Ext _ wt3 from (by with_reducible (repeat (first | exact Ext.rfl_ _ | assumption | refine Ext.drew ?_ | refine Ext.drewN ?_ _ | refine Ext.alloc ?_ _ | refine Ext.trans ?_ (by assumption)))))))); (try (go_wp2_with fail))
      refine hK.out _ _ (by exact HS3.out _ (by with_reducible (repeat (first | assumption | exact .rfl_ _ | refine .drew ?_ | refine .alloc ?_ _ | refine .setCell ?_ (by omega) _ | refine .trans ?_ (by assumption))))) (fun _ => ?_)
      clear hK K
      (try simp only [Act.put, List.getElem_toArray, List.getElem_cons_zero, List.getElem_cons_succ, List.setIfInBounds_toArray, List.set_cons_zero, List.set_cons_succ])
      refine wpAnyH_ready (rs := [1, 3, 10]) (by kernel_rfl) (by simp) ?_
      refine AllReadyH.cons (o := ({ dst := some 30, op := .buildSlice 26 1 #[(0, .const (.int .i64 1))], type := 26, pos := "law.go:21", after := #[], guard := none } : Go.Oper)) rfl (fun K hK => ?one33) ?more33
      case' one33 =>
       go_simp; (first | refine k_allocD (w0 := W3) ?_ (fun hb => ?_) | refine k_alloc (w0 := W3) ?_ (fun hb => ?_)); exact (by with_reducible (repeat (first | exact Ext.rfl_ _ | assumption | refine Ext.drew ?_ | refine Ext.drewN ?_ _ | refine Ext.alloc ?_ _ | refine Ext.trans ?_ (by assumption)))); (try simp only [World.size_alloc] at hb); have HDB := Lib.hid hb.1; clear hb
       refine hK.out _ _ (by exact HS3.out _ (by with_reducible (repeat (first | assumption | exact .rfl_ _ | refine .drew ?_ | refine .alloc ?_ _ | refine .setCell ?_ (by omega) _ | refine .trans ?_ (by assumption))))) (fun _ => ?_)
       clear hK K
       (try simp only [Act.put, List.getElem_toArray, List.getElem_cons_zero, List.getElem_cons_succ, List.setIfInBounds_toArray, List.set_cons_zero, List.set_cons_succ])
       refine wpAnyH_ready (rs := [3, 10]) (by kernel_rfl) (by simp) ?_
       refine AllReadyH.cons (o := ({ dst := some 32, op := .call { callee := .value (.func 11), args := #[.const (.int .i64 2), .const (.int .i64 1), .const (.int .u8 97), .const (.int .u8 98)], argTypes := #[2, 3, 5, 5] }, type := 42, pos := "law.go:21", after := #[⟨2, .chain⟩], guard := none } : Go.Oper)) rfl (fun K hK => ?one34) ?more34
       case' one34 =>
        go_simp; refine (ltab_any 2 1 97 98 _ ⟨by decide, by decide⟩ ⟨by decide, by decide⟩).mono ?_; rintro e wt2 ⟨At2, ct2, Bt2, dt2, rfl, hrt2, hwt2⟩; have HT2 := Lib.hid (show RdT wt2 _ kt2 from hrt2); clear hrt2; (try (have HBO := Lib.hid (blkX HBO.out (show Ext _ wt2 from (by with_reducible (repeat (first | exact Ext.rfl_ _ | assumption | refine Ext.drew ?_ | refine Ext.drewN ?_ _ | refine Ext.alloc ?_ _ | refine Ext.trans ?_ (by assumption)))))))); (try (go_wp2_with fail))
        refine hK.out _ _ (by exact HS3.out _ (by with_reducible (repeat (first | assumption | exact .rfl_ _ | refine .drew ?_ | refine .alloc ?_ _ | refine .setCell ?_ (by omega) _ | refine .trans ?_ (by assumption))))) (fun _ => ?_)
        clear hK K
        (try simp only [Act.put, List.getElem_toArray, List.getElem_cons_zero, List.getElem_cons_succ, List.setIfInBounds_toArray, List.set_cons_zero, List.set_cons_succ])
        refine wpAnyH_ready (rs := [4, 10]) (by kernel_rfl) (by simp) ?_
        refine AllReadyH.cons (o := ({ dst := some 33, op := .buildSlice 22 2 #[(0, .tmp 31), (1, .tmp 32)], type := 22, pos := "law.go:21", after := #[⟨2, .data⟩, ⟨3, .data⟩], guard := none } : Go.Oper)) rfl (fun K hK => ?one35) ?more35
        case' one35 =>
         go_simp; (first | refine k_allocD (w0 := W3) ?_ (fun hb => ?_) | refine k_alloc (w0 := W3) ?_ (fun hb => ?_)); exact (by with_reducible (repeat (first | exact Ext.rfl_ _ | assumption | refine Ext.drew ?_ | refine Ext.drewN ?_ _ | refine Ext.alloc ?_ _ | refine Ext.trans ?_ (by assumption)))); (try simp only [World.size_alloc] at hb); have HL2 := Lib.hid (rdT2 (t := kt3) (t' := kt2) hb.1 rfl rfl rfl rfl rfl rfl (HT3.out.ext (by with_reducible (repeat (first | exact Ext.rfl_ _ | assumption | refine Ext.drew ?_ | refine Ext.drewN ?_ _ | refine Ext.alloc ?_ _ | refine Ext.trans ?_ (by assumption))))) (HT2.out.ext (by with_reducible (repeat (first | exact Ext.rfl_ _ | assumption | refine Ext.drew ?_ | refine Ext.drewN ?_ _ | refine Ext.alloc ?_ _ | refine Ext.trans ?_ (by assumption)))))); clear hb
         refine hK.out _ _ (by exact HS3.out _ (by with_reducible (repeat (first | assumption | exact .rfl_ _ | refine .drew ?_ | refine .alloc ?_ _ | refine .setCell ?_ (by omega) _ | refine .trans ?_ (by assumption))))) (fun _ => ?_)
         clear hK K
         (try simp only [Act.put, List.getElem_toArray, List.getElem_cons_zero, List.getElem_cons_succ, List.setIfInBounds_toArray, List.set_cons_zero, List.set_cons_succ])
         refine wpAnyH_ready (rs := [5, 10]) (by kernel_rfl) (by simp) ?_
         refine AllReadyH.cons (o := ({ dst := some 34, op := .build 28 #[(0, .tmp 30), (1, .tmp 33), (2, .const (.int .i64 4)), (5, .const (.int .i64 3))], type := 28, pos := "law.go:21", after := #[⟨1, .data⟩, ⟨4, .data⟩], guard := none } : Go.Oper)) rfl (fun K hK => ?one36) ?more36
         case' one36 =>
          go_simp
          refine hK.out _ _ (by exact HS3.out _ (by with_reducible (repeat (first | assumption | exact .rfl_ _ | refine .drew ?_ | refine .alloc ?_ _ | refine .setCell ?_ (by omega) _ | refine .trans ?_ (by assumption))))) (fun _ => ?_)
          clear hK K
          (try simp only [Act.put, List.getElem_toArray, List.getElem_cons_zero, List.getElem_cons_succ, List.setIfInBounds_toArray, List.set_cons_zero, List.set_cons_succ])
          refine wpAnyH_ready (rs := [6, 10]) (by kernel_rfl) (by simp) ?_
          refine AllReadyH.cons (o := ({ dst := some 35, op := .call { callee := .value (.func 7), args := #[.tmp 29, .tmp 34], argTypes := #[24, 28] }, type := 33, pos := "law.go:21", after := #[⟨0, .data⟩, ⟨5, .data⟩, ⟨3, .chain⟩], guard := none } : Go.Oper)) rfl (fun K hK => ?one37) ?more37
          case' one37 =>
           go_simp; refine (kdo2_any A2 c2 _ _ _ (HR3.out.ext (by with_reducible (repeat (first | exact Ext.rfl_ _ | assumption | refine Ext.drew ?_ | refine Ext.drewN ?_ _ | refine Ext.alloc ?_ _ | refine Ext.trans ?_ (by assumption))))) HC2.out (rdN1 (blkX HDB.out (by with_reducible (repeat (first | exact Ext.rfl_ _ | assumption | refine Ext.drew ?_ | refine Ext.drewN ?_ _ | refine Ext.alloc ?_ _ | refine Ext.trans ?_ (by assumption))))) ⟨by decide, by decide⟩) (HL2.out.ext (by with_reducible (repeat (first | exact Ext.rfl_ _ | assumption | refine Ext.drew ?_ | refine Ext.drewN ?_ _ | refine Ext.alloc ?_ _ | refine Ext.trans ?_ (by assumption)))))).mono ?_; rintro e wd ⟨b4, A4, c4, rfl, ho4, hc4, hx⟩; have HO4 := Lib.hid ho4; have HC4 := Lib.hid hc4; clear hc4 ho4; (try (have HBO := Lib.hid (blkX HBO.out (show Ext _ wd from (by with_reducible (repeat (first | exact Ext.rfl_ _ | assumption | refine Ext.drew ?_ | refine Ext.drewN ?_ _ | refine Ext.alloc ?_ _ | refine Ext.trans ?_ (by assumption)))))))); (try (go_wp2_with fail))
           refine hK.out _ _ (by exact HS3.out _ (by with_reducible (repeat (first | assumption | exact .rfl_ _ | refine .drew ?_ | refine .alloc ?_ _ | refine .setCell ?_ (by omega) _ | refine .trans ?_ (by assumption))))) (fun _ => ?_)
           clear hK K
           refine wpAnyH_take (i := 7) (oi := ({ dst := some 28, op := .move (.tmp 35), type := 33, pos := "law.go:21", after := #[⟨6, .data⟩], guard := none } : Go.Oper)) (v := ?v38) rfl (by kernel_rfl) (by kernel_rfl) (by kernel_rfl) (fun _ _ _ h => h) (Or.inl ⟨by rfl, ?hy38⟩) (by assumption) ?rest38
           case hy38 => (intro w hSw; (try dsimp only at hSw); go_simp; (try with_reducible rfl))
           refine wpAnyH_take (i := 8) (oi := ({ dst := some 36, op := .extract (.tmp 28) 0, type := 24, pos := "law.go:21", after := #[⟨7, .data⟩], guard := none } : Go.Oper)) (v := ?v39) rfl (by kernel_rfl) (by kernel_rfl) (by kernel_rfl) (fun _ _ _ h => h) (Or.inl ⟨by rfl, ?hy39⟩) (by assumption) ?rest39
           case hy39 => (intro w hSw; (try dsimp only at hSw); go_simp; (try with_reducible rfl))
           refine wpAnyH_take (i := 9) (oi := ({ dst := some 37, op := .extract (.tmp 28) 1, type := 29, pos := "law.go:21", after := #[⟨7, .data⟩, ⟨11, .gcOnly .lateStores⟩], guard := none } : Go.Oper)) (v := ?v40) rfl (by kernel_rfl) (by kernel_rfl) (by kernel_rfl) (fun _ _ _ h => h) (Or.inl ⟨by rfl, ?hy40⟩) (by assumption) ?rest40
           case hy40 => (intro w hSw; (try dsimp only at hSw); go_simp; (try with_reducible rfl))
           (try simp only [Act.put, List.getElem_toArray, List.getElem_cons_zero, List.getElem_cons_succ, List.setIfInBounds_toArray, List.set_cons_zero, List.set_cons_succ])
           refine wpAnyH_ready (rs := [10]) (by kernel_rfl) (by simp) ?_
           refine AllReadyH.cons (o := ({ dst := some 3, op := .alloc 24, type := 0, pos := "law.go:21", after := #[], guard := none } : Go.Oper)) rfl (fun K hK => ?_) AllReadyH.nil
           go_simp; (first | refine k_allocD (w0 := W3) ?_ (fun hb => ?_) | refine k_alloc (w0 := W3) ?_ (fun hb => ?_)); exact (by with_reducible (repeat (first | exact Ext.rfl_ _ | assumption | refine Ext.drew ?_ | refine Ext.drewN ?_ _ | refine Ext.alloc ?_ _ | refine Ext.trans ?_ (by assumption)))); (try simp only [World.size_alloc] at hb); have HBO := Lib.hid hb.1; have zo := hb.2; clear hb; (try have ALAST := Lib.hid HC4.out)
           refine hK.out _ _ (by exact HS3.out _ (by with_reducible (repeat (first | assumption | exact .rfl_ _ | refine .drew ?_ | refine .alloc ?_ _ | refine .setCell ?_ (by omega) _ | refine .trans ?_ (by assumption))))) (fun _ => ?_)
           clear hK K
           (try simp only [Act.put, List.getElem_toArray, List.getElem_cons_zero, List.getElem_cons_succ, List.setIfInBounds_toArray, List.set_cons_zero, List.set_cons_succ])
           refine wpAnyH_ready (rs := [11]) (by kernel_rfl) (by simp) ?_
           refine AllReadyH.cons (o := ({ dst := none, op := .store 24 (.tmp 3) (.tmp 36), type := 0, pos := "law.go:21", after := #[⟨10, .data⟩, ⟨8, .data⟩, ⟨6, .chain⟩, ⟨0, .phase⟩, ⟨1, .phase⟩, ⟨2, .phase⟩, ⟨3, .phase⟩, ⟨4, .phase⟩, ⟨5, .phase⟩, ⟨6, .phase⟩, ⟨7, .phase⟩, ⟨8, .phase⟩, ⟨9, .textOnly .lateStores⟩, ⟨10, .phase⟩], guard := none } : Go.Oper)) rfl (fun K hK => ?_) AllReadyH.nil
           obtain ⟨o0, o1, o2, o3, o4, p0, p1, p2, p3, p4⟩ := box5 HBO.out (Ext.rfl_ _); go_simp
           refine hK.out _ _ (by exact HS3.out _ (by with_reducible (repeat (first | assumption | exact .rfl_ _ | refine .drew ?_ | refine .alloc ?_ _ | refine .setCell ?_ (by omega) _ | refine .trans ?_ (by assumption))))) (fun _ => ?_)
           clear hK K
           refine wpAnyH_take (i := 12) (oi := ({ dst := some 2, op := .assign (.tmp 37), type := 29, pos := "law.go:21", after := #[⟨9, .data⟩, ⟨11, .chain⟩, ⟨0, .phase⟩, ⟨1, .phase⟩, ⟨2, .phase⟩, ⟨3, .phase⟩, ⟨4, .phase⟩, ⟨5, .phase⟩, ⟨6, .phase⟩, ⟨7, .phase⟩, ⟨8, .phase⟩, ⟨9, .phase⟩, ⟨10, .phase⟩, ⟨11, .phase⟩], guard := none } : Go.Oper)) (v := ?v41) rfl (by kernel_rfl) (by kernel_rfl) (by kernel_rfl) (fun _ _ _ h => h) (Or.inl ⟨by rfl, ?hy41⟩) (by assumption) ?rest41
           case hy41 => (intro w hSw; (try dsimp only at hSw); go_simp; (try with_reducible rfl))
           (try simp only [Act.put, List.getElem_toArray, List.getElem_cons_zero, List.getElem_cons_succ, List.setIfInBounds_toArray, List.set_cons_zero, List.set_cons_succ])
           refine wpAnyH_done (by kernel_rfl) ?_ _
          case' more37 =>
           refine AllReadyH.cons (o := ({ dst := some 3, op := .alloc 24, type := 0, pos := "law.go:21", after := #[], guard := none } : Go.Oper)) rfl (fun K hK => ?_) AllReadyH.nil
           go_simp; (first | refine k_allocD (w0 := W3) ?_ (fun hb => ?_) | refine k_alloc (w0 := W3) ?_ (fun hb => ?_)); exact (by with_reducible (repeat (first | exact Ext.rfl_ _ | assumption | refine Ext.drew ?_ | refine Ext.drewN ?_ _ | refine Ext.alloc ?_ _ | refine Ext.trans ?_ (by assumption)))); (try simp only [World.size_alloc] at hb); have HBO := Lib.hid hb.1; have zo := hb.2; clear hb; (try have ALAST := Lib.hid HC4.out)
           refine hK.out _ _ (by exact HS3.out _ (by with_reducible (repeat (first | assumption | exact .rfl_ _ | refine .drew ?_ | refine .alloc ?_ _ | refine .setCell ?_ (by omega) _ | refine .trans ?_ (by assumption))))) (fun _ => ?_)
           clear hK K
           (try simp only [Act.put, List.getElem_toArray, List.getElem_cons_zero, List.getElem_cons_succ, List.setIfInBounds_toArray, List.set_cons_zero, List.set_cons_succ])
           refine wpAnyH_ready (rs := [6]) (by kernel_rfl) (by simp) ?_
           refine AllReadyH.cons (o := ({ dst := some 35, op := .call { callee := .value (.func 7), args := #[.tmp 29, .tmp 34], argTypes := #[24, 28] }, type := 33, pos := "law.go:21", after := #[⟨0, .data⟩, ⟨5, .data⟩, ⟨3, .chain⟩], guard := none } : Go.Oper)) rfl (fun K hK => ?_) AllReadyH.nil
           go_simp; refine (kdo2_any A2 c2 _ _ _ (HR3.out.ext (by with_reducible (repeat (first | exact Ext.rfl_ _ | assumption | refine Ext.drew ?_ | refine Ext.drewN ?_ _ | refine Ext.alloc ?_ _ | refine Ext.trans ?_ (by assumption))))) HC2.out (rdN1 (blkX HDB.out (by with_reducible (repeat (first | exact Ext.rfl_ _ | assumption | refine Ext.drew ?_ | refine Ext.drewN ?_ _ | refine Ext.alloc ?_ _ | refine Ext.trans ?_ (by assumption))))) ⟨by decide, by decide⟩) (HL2.out.ext (by with_reducible (repeat (first | exact Ext.rfl_ _ | assumption | refine Ext.drew ?_ | refine Ext.drewN ?_ _ | refine Ext.alloc ?_ _ | refine Ext.trans ?_ (by assumption)))))).mono ?_; rintro e wd ⟨b4, A4, c4, rfl, ho4, hc4, hx⟩; have HO4 := Lib.hid ho4; have HC4 := Lib.hid hc4; clear hc4 ho4; (try (have HBO := Lib.hid (blkX HBO.out (show Ext _ wd from (by with_reducible (repeat (first | exact Ext.rfl_ _ | assumption | refine Ext.drew ?_ | refine Ext.drewN ?_ _ | refine Ext.alloc ?_ _ | refine Ext.trans ?_ (by assumption)))))))); (try (go_wp2_with fail))
           refine hK.out _ _ (by exact HS3.out _ (by with_reducible (repeat (first | assumption | exact .rfl_ _ | refine .drew ?_ | refine .alloc ?_ _ | refine .setCell ?_ (by omega) _ | refine .trans ?_ (by assumption))))) (fun _ => ?_)
           clear hK K
           refine wpAnyH_take (i := 7) (oi := ({ dst := some 28, op := .move (.tmp 35), type := 33, pos := "law.go:21", after := #[⟨6, .data⟩], guard := none } : Go.Oper)) (v := ?v42) rfl (by kernel_rfl) (by kernel_rfl) (by kernel_rfl) (fun _ _ _ h => h) (Or.inl ⟨by rfl, ?hy42⟩) (by assumption) ?rest42
           case hy42 => (intro w hSw; (try dsimp only at hSw); go_simp; (try with_reducible rfl))
           refine wpAnyH_take (i := 8) (oi := ({ dst := some 36, op := .extract (.tmp 28) 0, type := 24, pos := "law.go:21", after := #[⟨7, .data⟩], guard := none } : Go.Oper)) (v := ?v43) rfl (by kernel_rfl) (by kernel_rfl) (by kernel_rfl) (fun _ _ _ h => h) (Or.inl ⟨by rfl, ?hy43⟩) (by assumption) ?rest43
           case hy43 => (intro w hSw; (try dsimp only at hSw); go_simp; (try with_reducible rfl))
           refine wpAnyH_take (i := 9) (oi := ({ dst := some 37, op := .extract (.tmp 28) 1, type := 29, pos := "law.go:21", after := #[⟨7, .data⟩, ⟨11, .gcOnly .lateStores⟩], guard := none } : Go.Oper)) (v := ?v44) rfl (by kernel_rfl) (by kernel_rfl) (by kernel_rfl) (fun _ _ _ h => h) (Or.inl ⟨by rfl, ?hy44⟩) (by assumption) ?rest44
           case hy44 => (intro w hSw; (try dsimp only at hSw); go_simp; (try with_reducible rfl))
           (try simp only [Act.put, List.getElem_toArray, List.getElem_cons_zero, List.getElem_cons_succ, List.setIfInBounds_toArray, List.set_cons_zero, List.set_cons_succ])
           refine wpAnyH_ready (rs := [11]) (by kernel_rfl) (by simp) ?_
           refine AllReadyH.cons (o := ({ dst := none, op := .store 24 (.tmp 3) (.tmp 36), type := 0, pos := "law.go:21", after := #[⟨10, .data⟩, ⟨8, .data⟩, ⟨6, .chain⟩, ⟨0, .phase⟩, ⟨1, .phase⟩, ⟨2, .phase⟩, ⟨3, .phase⟩, ⟨4, .phase⟩, ⟨5, .phase⟩, ⟨6, .phase⟩, ⟨7, .phase⟩, ⟨8, .phase⟩, ⟨9, .textOnly .lateStores⟩, ⟨10, .phase⟩], guard := none } : Go.Oper)) rfl (fun K hK => ?_) AllReadyH.nil
           obtain ⟨o0, o1, o2, o3, o4, p0, p1, p2, p3, p4⟩ := box5 HBO.out (Ext.rfl_ _); go_simp
           refine hK.out _ _ (by exact HS3.out _ (by with_reducible (repeat (first | assumption | exact .rfl_ _ | refine .drew ?_ | refine .alloc ?_ _ | refine .setCell ?_ (by omega) _ | refine .trans ?_ (by assumption))))) (fun _ => ?_)
           clear hK K
           refine wpAnyH_take (i := 12) (oi := ({ dst := some 2, op := .assign (.tmp 37), type := 29, pos := "law.go:21", after := #[⟨9, .data⟩, ⟨11, .chain⟩, ⟨0, .phase⟩, ⟨1, .phase⟩, ⟨2, .phase⟩, ⟨3, .phase⟩, ⟨4, .phase⟩, ⟨5, .phase⟩, ⟨6, .phase⟩, ⟨7, .phase⟩, ⟨8, .phase⟩, ⟨9, .phase⟩, ⟨10, .phase⟩, ⟨11, .phase⟩], guard := none } : Go.Oper)) (v := ?v45) rfl (by kernel_rfl) (by kernel_rfl) (by kernel_rfl) (fun _ _ _ h => h) (Or.inl ⟨by rfl, ?hy45⟩) (by assumption) ?rest45
           case hy45 => (intro w hSw; (try dsimp only at hSw); go_simp; (try with_reducible rfl))
           (try simp only [Act.put, List.getElem_toArray, List.getElem_cons_zero, List.getElem_cons_succ, List.setIfInBounds_toArray, List.set_cons_zero, List.set_cons_succ])
           refine wpAnyH_done (by kernel_rfl) ?_ _
         case' more36 =>
          refine AllReadyH.cons (o := ({ dst := some 3, op := .alloc 24, type := 0, pos := "law.go:21", after := #[], guard := none } : Go.Oper)) rfl (fun K hK => ?_) AllReadyH.nil
          go_simp; (first | refine k_allocD (w0 := W3) ?_ (fun hb => ?_) | refine k_alloc (w0 := W3) ?_ (fun hb => ?_)); exact (by with_reducible (repeat (first | exact Ext.rfl_ _ | assumption | refine Ext.drew ?_ | refine Ext.drewN ?_ _ | refine Ext.alloc ?_ _ | refine Ext.trans ?_ (by assumption)))); (try simp only [World.size_alloc] at hb); have HBO := Lib.hid hb.1; have zo := hb.2; clear hb; (try have ALAST := Lib.hid HC4.out)
          refine hK.out _ _ (by exact HS3.out _ (by with_reducible (repeat (first | assumption | exact .rfl_ _ | refine .drew ?_ | refine .alloc ?_ _ | refine .setCell ?_ (by omega) _ | refine .trans ?_ (by assumption))))) (fun _ => ?_)
          clear hK K
          (try simp only [Act.put, List.getElem_toArray, List.getElem_cons_zero, List.getElem_cons_succ, List.setIfInBounds_toArray, List.set_cons_zero, List.set_cons_succ])
          refine wpAnyH_ready (rs := [5]) (by kernel_rfl) (by simp) ?_
          refine AllReadyH.cons (o := ({ dst := some 34, op := .build 28 #[(0, .tmp 30), (1, .tmp 33), (2, .const (.int .i64 4)), (5, .const (.int .i64 3))], type := 28, pos := "law.go:21", after := #[⟨1, .data⟩, ⟨4, .data⟩], guard := none } : Go.Oper)) rfl (fun K hK => ?_) AllReadyH.nil
          go_simp
          refine hK.out _ _ (by exact HS3.out _ (by with_reducible (repeat (first | assumption | exact .rfl_ _ | refine .drew ?_ | refine .alloc ?_ _ | refine .setCell ?_ (by omega) _ | refine .trans ?_ (by assumption))))) (fun _ => ?_)
          clear hK K
          (try simp only [Act.put, List.getElem_toArray, List.getElem_cons_zero, List.getElem_cons_succ, List.setIfInBounds_toArray, List.set_cons_zero, List.set_cons_succ])
          refine wpAnyH_ready (rs := [6]) (by kernel_rfl) (by simp) ?_
          refine AllReadyH.cons (o := ({ dst := some 35, op := .call { callee := .value (.func 7), args := #[.tmp 29, .tmp 34], argTypes := #[24, 28] }, type := 33, pos := "law.go:21", after := #[⟨0, .data⟩, ⟨5, .data⟩, ⟨3, .chain⟩], guard := none } : Go.Oper)) rfl (fun K hK => ?_) AllReadyH.nil
          go_simp; refine (kdo2_any A2 c2 _ _ _ (HR3.out.ext (by with_reducible (repeat (first | exact Ext.rfl_ _ | assumption | refine Ext.drew ?_ | refine Ext.drewN ?_ _ | refine Ext.alloc ?_ _ | refine Ext.trans ?_ (by assumption))))) HC2.out (rdN1 (blkX HDB.out (by with_reducible (repeat (first | exact Ext.rfl_ _ | assumption | refine Ext.drew ?_ | refine Ext.drewN ?_ _ | refine Ext.alloc ?_ _ | refine Ext.trans ?_ (by assumption))))) ⟨by decide, by decide⟩) (HL2.out.ext (by with_reducible (repeat (first | exact Ext.rfl_ _ | assumption | refine Ext.drew ?_ | refine Ext.drewN ?_ _ | refine Ext.alloc ?_ _ | refine Ext.trans ?_ (by assumption)))))).mono ?_; rintro e wd ⟨b4, A4, c4, rfl, ho4, hc4, hx⟩; have HO4 := Lib.hid ho4; have HC4 := Lib.hid hc4; clear hc4 ho4; (try (have HBO := Lib.hid (blkX HBO.out (show Ext _ wd from (by with_reducible (repeat (first | exact Ext.rfl_ _ | assumption | refine Ext.drew ?_ | refine Ext.drewN ?_ _ | refine Ext.alloc ?_ _ | refine Ext.trans ?_ (by assumption)))))))); (try (go_wp2_with fail))
          refine hK.out _ _ (by exact HS3.out _ (by with_reducible (repeat (first | assumption | exact .rfl_ _ | refine .drew ?_ | refine .alloc ?_ _ | refine .setCell ?_ (by omega) _ | refine .trans ?_ (by assumption))))) (fun _ => ?_)
          clear hK K
          refine wpAnyH_take (i := 7) (oi := ({ dst := some 28, op := .move (.tmp 35), type := 33, pos := "law.go:21", after := #[⟨6, .data⟩], guard := none } : Go.Oper)) (v := ?v46) rfl (by kernel_rfl) (by kernel_rfl) (by kernel_rfl) (fun _ _ _ h => h) (Or.inl ⟨by rfl, ?hy46⟩) (by assumption) ?rest46
          case hy46 => (intro w hSw; (try dsimp only at hSw); go_simp; (try with_reducible rfl))
          refine wpAnyH_take (i := 8) (oi := ({ dst := some 36, op := .extract (.tmp 28) 0, type := 24, pos := "law.go:21", after := #[⟨7, .data⟩], guard := none } : Go.Oper)) (v := ?v47) rfl (by kernel_rfl) (by kernel_rfl) (by kernel_rfl) (fun _ _ _ h => h) (Or.inl ⟨by rfl, ?hy47⟩) (by assumption) ?rest47
          case hy47 => (intro w hSw; (try dsimp only at hSw); go_simp; (try with_reducible rfl))
          refine wpAnyH_take (i := 9) (oi := ({ dst := some 37, op := .extract (.tmp 28) 1, type := 29, pos := "law.go:21", after := #[⟨7, .data⟩, ⟨11, .gcOnly .lateStores⟩], guard := none } : Go.Oper)) (v := ?v48) rfl (by kernel_rfl) (by kernel_rfl) (by kernel_rfl) (fun _ _ _ h => h) (Or.inl ⟨by rfl, ?hy48⟩) (by assumption) ?rest48
          case hy48 => (intro w hSw; (try dsimp only at hSw); go_simp; (try with_reducible rfl))
          (try simp only [Act.put, List.getElem_toArray, List.getElem_cons_zero, List.getElem_cons_succ, List.setIfInBounds_toArray, List.set_cons_zero, List.set_cons_succ])
          refine wpAnyH_ready (rs := [11]) (by kernel_rfl) (by simp) ?_
          refine AllReadyH.cons (o := ({ dst := none, op := .store 24 (.tmp 3) (.tmp 36), type := 0, pos := "law.go:21", after := #[⟨10, .data⟩, ⟨8, .data⟩, ⟨6, .chain⟩, ⟨0, .phase⟩, ⟨1, .phase⟩, ⟨2, .phase⟩, ⟨3, .phase⟩, ⟨4, .phase⟩, ⟨5, .phase⟩, ⟨6, .phase⟩, ⟨7, .phase⟩, ⟨8, .phase⟩, ⟨9, .textOnly .lateStores⟩, ⟨10, .phase⟩], guard := none } : Go.Oper)) rfl (fun K hK => ?_) AllReadyH.nil
          obtain ⟨o0, o1, o2, o3, o4, p0, p1, p2, p3, p4⟩ := box5 HBO.out (Ext.rfl_ _); go_simp
          refine hK.out _ _ (by exact HS3.out _ (by with_reducible (repeat (first | assumption | exact .rfl_ _ | refine .drew ?_ | refine .alloc ?_ _ | refine .setCell ?_ (by omega) _ | refine .trans ?_ (by assumption))))) (fun _ => ?_)
          clear hK K
          refine wpAnyH_take (i := 12) (oi := ({ dst := some 2, op := .assign (.tmp 37), type := 29, pos := "law.go:21", after := #[⟨9, .data⟩, ⟨11, .chain⟩, ⟨0, .phase⟩, ⟨1, .phase⟩, ⟨2, .phase⟩, ⟨3, .phase⟩, ⟨4, .phase⟩, ⟨5, .phase⟩, ⟨6, .phase⟩, ⟨7, .phase⟩, ⟨8, .phase⟩, ⟨9, .phase⟩, ⟨10, .phase⟩, ⟨11, .phase⟩], guard := none } : Go.Oper)) (v := ?v49) rfl (by kernel_rfl) (by kernel_rfl) (by kernel_rfl) (fun _ _ _ h => h) (Or.inl ⟨by rfl, ?hy49⟩) (by assumption) ?rest49
          case hy49 => (intro w hSw; (try dsimp only at hSw); go_simp; (try with_reducible rfl))
          (try simp only [Act.put, List.getElem_toArray, List.getElem_cons_zero, List.getElem_cons_succ, List.setIfInBounds_toArray, List.set_cons_zero, List.set_cons_succ])
          refine wpAnyH_done (by kernel_rfl) ?_ _
        case' more35 =>
         refine AllReadyH.cons (o := ({ dst := some 3, op := .alloc 24, type := 0, pos := "law.go:21", after := #[], guard := none } : Go.Oper)) rfl (fun K hK => ?_) AllReadyH.nil
         go_simp; (first | refine k_allocD (w0 := W3) ?_ (fun hb => ?_) | refine k_alloc (w0 := W3) ?_ (fun hb => ?_)); exact (by with_reducible (repeat (first | exact Ext.rfl_ _ | assumption | refine Ext.drew ?_ | refine Ext.drewN ?_ _ | refine Ext.alloc ?_ _ | refine Ext.trans ?_ (by assumption)))); (try simp only [World.size_alloc] at hb); have HBO := Lib.hid hb.1; have zo := hb.2; clear hb; (try have ALAST := Lib.hid HC4.out)
         refine hK.out _ _ (by exact HS3.out _ (by with_reducible (repeat (first | assumption | exact .rfl_ _ | refine .drew ?_ | refine .alloc ?_ _ | refine .setCell ?_ (by omega) _ | refine .trans ?_ (by assumption))))) (fun _ => ?_)
         clear hK K
         (try simp only [Act.put, List.getElem_toArray, List.getElem_cons_zero, List.getElem_cons_succ, List.setIfInBounds_toArray, List.set_cons_zero, List.set_cons_succ])
         refine wpAnyH_ready (rs := [4]) (by kernel_rfl) (by simp) ?_
         refine AllReadyH.cons (o := ({ dst := some 33, op := .buildSlice 22 2 #[(0, .tmp 31), (1, .tmp 32)], type := 22, pos := "law.go:21", after := #[⟨2, .data⟩, ⟨3, .data⟩], guard := none } : Go.Oper)) rfl (fun K hK => ?_) AllReadyH.nil
         go_simp; (first | refine k_allocD (w0 := W3) ?_ (fun hb => ?_) | refine k_alloc (w0 := W3) ?_ (fun hb => ?_)); exact (by with_reducible (repeat (first | exact Ext.rfl_ _ | assumption | refine Ext.drew ?_ | refine Ext.drewN ?_ _ | refine Ext.alloc ?_ _ | refine Ext.trans ?_ (by assumption)))); (try simp only [World.size_alloc] at hb); have HL2 := Lib.hid (rdT2 (t := kt3) (t' := kt2) hb.1 rfl rfl rfl rfl rfl rfl (HT3.out.ext (by with_reducible (repeat (first | exact Ext.rfl_ _ | assumption | refine Ext.drew ?_ | refine Ext.drewN ?_ _ | refine Ext.alloc ?_ _ | refine Ext.trans ?_ (by assumption))))) (HT2.out.ext (by with_reducible (repeat (first | exact Ext.rfl_ _ | assumption | refine Ext.drew ?_ | refine Ext.drewN ?_ _ | refine Ext.alloc ?_ _ | refine Ext.trans ?_ (by assumption)))))); clear hb
         refine hK.out _ _ (by exact HS3.out _ (by with_reducible (repeat (first | assumption | exact .rfl_ _ | refine .drew ?_ | refine .alloc ?_ _ | refine .setCell ?_ (by omega) _ | refine .trans ?_ (by assumption))))) (fun _ => ?_)
         clear hK K
         (try simp only [Act.put, List.getElem_toArray, List.getElem_cons_zero, List.getElem_cons_succ, List.setIfInBounds_toArray, List.set_cons_zero, List.set_cons_succ])
         refine wpAnyH_ready (rs := [5]) (by kernel_rfl) (by simp) ?_
         refine AllReadyH.cons (o := ({ dst := some 34, op := .build 28 #[(0, .tmp 30), (1, .tmp 33), (2, .const (.int .i64 4)), (5, .const (.int .i64 3))], type := 28, pos := "law.go:21", after := #[⟨1, .data⟩, ⟨4, .data⟩], guard := none } : Go.Oper)) rfl (fun K hK => ?_) AllReadyH.nil
         go_simp
         refine hK.out _ _ (by exact HS3.out _ (by with_reducible (repeat (first | assumption | exact .rfl_ _ | refine .drew ?_ | refine .alloc ?_ _ | refine .setCell ?_ (by omega) _ | refine .trans ?_ (by assumption))))) (fun _ => ?_)
         clear hK K
         (try simp only [Act.put, List.getElem_toArray, List.getElem_cons_zero, List.getElem_cons_succ, List.setIfInBounds_toArray, List.set_cons_zero, List.set_cons_succ])
         refine wpAnyH_ready (rs := [6]) (by kernel_rfl) (by simp) ?_
         refine AllReadyH.cons (o := ({ dst := some 35, op := .call { callee := .value (.func 7), args := #[.tmp 29, .tmp 34], argTypes := #[24, 28] }, type := 33, pos := "law.go:21", after := #[⟨0, .data⟩, ⟨5, .data⟩, ⟨3, .chain⟩], guard := none } : Go.Oper)) rfl (fun K hK => ?_) AllReadyH.nil
         go_simp; refine (kdo2_any A2 c2 _ _ _ (HR3.out.ext (by with_reducible (repeat (first | exact Ext.rfl_ _ | assumption | refine Ext.drew ?_ | refine Ext.drewN ?_ _ | refine Ext.alloc ?_ _ | refine Ext.trans ?_ (by assumption))))) HC2.out (rdN1 (blkX HDB.out (by with_reducible (repeat (first | exact Ext.rfl_ _ | assumption | refine Ext.drew ?_ | refine Ext.drewN ?_ _ | refine Ext.alloc ?_ _ | refine Ext.trans ?_ (by assumption))))) ⟨by decide, by decide⟩) (HL2.out.ext (by with_reducible (repeat (first | exact Ext.rfl_ _ | assumption | refine Ext.drew ?_ | refine Ext.drewN ?_ _ | refine Ext.alloc ?_ _ | refine Ext.trans ?_ (by assumption)))))).mono ?_; rintro e wd ⟨b4, A4, c4, rfl, ho4, hc4, hx⟩; have HO4 := Lib.hid ho4; have HC4 := Lib.hid hc4; clear hc4 ho4; (try (have HBO := Lib.hid (blkX HBO.out (show Ext _ wd from (by with_reducible (repeat (first | exact Ext.rfl_ _ | assumption | refine Ext.drew ?_ | refine Ext.drewN ?_ _ | refine Ext.alloc ?_ _ | refine Ext.trans ?_ (by assumption)))))))); (try (go_wp2_with fail))
         refine hK.out _ _ (by exact HS3.out _ (by with_reducible (repeat (first | assumption | exact .rfl_ _ | refine .drew ?_ | refine .alloc ?_ _ | refine .setCell ?_ (by omega) _ | refine .trans ?_ (by assumption))))) (fun _ => ?_)
         clear hK K
         refine wpAnyH_take (i := 7) (oi := ({ dst := some 28, op := .move (.tmp 35), type := 33, pos := "law.go:21", after := #[⟨6, .data⟩], guard := none } : Go.Oper)) (v := ?v50) rfl (by kernel_rfl) (by kernel_rfl) (by kernel_rfl) (fun _ _ _ h => h) (Or.inl ⟨by rfl, ?hy50⟩) (by assumption) ?rest50
         case hy50 => (intro w hSw; (try dsimp only at hSw); go_simp; (try with_reducible rfl))
         refine wpAnyH_take (i := 8) (oi := ({ dst := some 36, op := .extract (.tmp 28) 0, type := 24, pos := "law.go:21", after := #[⟨7, .data⟩], guard := none } : Go.Oper)) (v := ?v51) rfl (by kernel_rfl) (by kernel_rfl) (by kernel_rfl) (fun _ _ _ h => h) (Or.inl ⟨by rfl, ?hy51⟩) (by assumption) ?rest51
         case hy51 => (intro w hSw; (try dsimp only at hSw); go_simp; (try with_reducible rfl))
         refine wpAnyH_take (i := 9) (oi := ({ dst := some 37, op := .extract (.tmp 28) 1, type := 29, pos := "law.go:21", after := #[⟨7, .data⟩, ⟨11, .gcOnly .lateStores⟩], guard := none } : Go.Oper)) (v := ?v52) rfl (by kernel_rfl) (by kernel_rfl) (by kernel_rfl) (fun _ _ _ h => h) (Or.inl ⟨by rfl, ?hy52⟩) (by assumption) ?rest52
         case hy52 => (intro w hSw; (try dsimp only at hSw); go_simp; (try with_reducible rfl))
         (try simp only [Act.put, List.getElem_toArray, List.getElem_cons_zero, List.getElem_cons_succ, List.setIfInBounds_toArray, List.set_cons_zero, List.set_cons_succ])
         refine wpAnyH_ready (rs := [11]) (by kernel_rfl) (by simp) ?_
         refine AllReadyH.cons (o := ({ dst := none, op := .store 24 (.tmp 3) (.tmp 36), type := 0, pos := "law.go:21", after := #[⟨10, .data⟩, ⟨8, .data⟩, ⟨6, .chain⟩, ⟨0, .phase⟩, ⟨1, .phase⟩, ⟨2, .phase⟩, ⟨3, .phase⟩, ⟨4, .phase⟩, ⟨5, .phase⟩, ⟨6, .phase⟩, ⟨7, .phase⟩, ⟨8, .phase⟩, ⟨9, .textOnly .lateStores⟩, ⟨10, .phase⟩], guard := none } : Go.Oper)) rfl (fun K hK => ?_) AllReadyH.nil
         obtain ⟨o0, o1, o2, o3, o4, p0, p1, p2, p3, p4⟩ := box5 HBO.out (Ext.rfl_ _); go_simp
         refine hK.out _ _ (by exact HS3.out _ (by with_reducible (repeat (first | assumption | exact .rfl_ _ | refine .drew ?_ | refine .alloc ?_ _ | refine .setCell ?_ (by omega) _ | refine .trans ?_ (by assumption))))) (fun _ => ?_)
         clear hK K
         refine wpAnyH_take (i := 12) (oi := ({ dst := some 2, op := .assign (.tmp 37), type := 29, pos := "law.go:21", after := #[⟨9, .data⟩, ⟨11, .chain⟩, ⟨0, .phase⟩, ⟨1, .phase⟩, ⟨2, .phase⟩, ⟨3, .phase⟩, ⟨4, .phase⟩, ⟨5, .phase⟩, ⟨6, .phase⟩, ⟨7, .phase⟩, ⟨8, .phase⟩, ⟨9, .phase⟩, ⟨10, .phase⟩, ⟨11, .phase⟩], guard := none } : Go.Oper)) (v := ?v53) rfl (by kernel_rfl) (by kernel_rfl) (by kernel_rfl) (fun _ _ _ h => h) (Or.inl ⟨by rfl, ?hy53⟩) (by assumption) ?rest53
         case hy53 => (intro w hSw; (try dsimp only at hSw); go_simp; (try with_reducible rfl))
         (try simp only [Act.put, List.getElem_toArray, List.getElem_cons_zero, List.getElem_cons_succ, List.setIfInBounds_toArray, List.set_cons_zero, List.set_cons_succ])
         refine wpAnyH_done (by kernel_rfl) ?_ _
       case' more34 =>
        refine AllReadyH.cons (o := ({ dst := some 3, op := .alloc 24, type := 0, pos := "law.go:21", after := #[], guard := none } : Go.Oper)) rfl (fun K hK => ?_) AllReadyH.nil
        go_simp; (first | refine k_allocD (w0 := W3) ?_ (fun hb => ?_) | refine k_alloc (w0 := W3) ?_ (fun hb => ?_)); exact (by with_reducible (repeat (first | exact Ext.rfl_ _ | assumption | refine Ext.drew ?_ | refine Ext.drewN ?_ _ | refine Ext.alloc ?_ _ | refine Ext.trans ?_ (by assumption)))); (try simp only [World.size_alloc] at hb); have HBO := Lib.hid hb.1; have zo := hb.2; clear hb; (try have ALAST := Lib.hid HC4.out)
        refine hK.out _ _ (by exact HS3.out _ (by with_reducible (repeat (first | assumption | exact .rfl_ _ | refine .drew ?_ | refine .alloc ?_ _ | refine .setCell ?_ (by omega) _ | refine .trans ?_ (by assumption))))) (fun _ => ?_)
        clear hK K
        (try simp only [Act.put, List.getElem_toArray, List.getElem_cons_zero, List.getElem_cons_succ, List.setIfInBounds_toArray, List.set_cons_zero, List.set_cons_succ])
        refine wpAnyH_ready (rs := [3]) (by kernel_rfl) (by simp) ?_
        refine AllReadyH.cons (o := ({ dst := some 32, op := .call { callee := .value (.func 11), args := #[.const (.int .i64 2), .const (.int .i64 1), .const (.int .u8 97), .const (.int .u8 98)], argTypes := #[2, 3, 5, 5] }, type := 42, pos := "law.go:21", after := #[⟨2, .chain⟩], guard := none } : Go.Oper)) rfl (fun K hK => ?_) AllReadyH.nil
        go_simp; refine (ltab_any 2 1 97 98 _ ⟨by decide, by decide⟩ ⟨by decide, by decide⟩).mono ?_; rintro e wt2 ⟨At2, ct2, Bt2, dt2, rfl, hrt2, hwt2⟩; have HT2 := Lib.hid (show RdT wt2 _ kt2 from hrt2); clear hrt2; (try (have HBO := Lib.hid (blkX HBO.out (show Ext _ wt2 from (by with_reducible (repeat (first | exact Ext.rfl_ _ | assumption | refine Ext.drew ?_ | refine Ext.drewN ?_ _ | refine Ext.alloc ?_ _ | refine Ext.trans ?_ (by assumption)))))))); (try (go_wp2_with fail))
        refine hK.out _ _ (by exact HS3.out _ (by with_reducible (repeat (first | assumption | exact .rfl_ _ | refine .drew ?_ | refine .alloc ?_ _ | refine .setCell ?_ (by omega) _ | refine .trans ?_ (by assumption))))) (fun _ => ?_)
        clear hK K
        (try simp only [Act.put, List.getElem_toArray, List.getElem_cons_zero, List.getElem_cons_succ, List.setIfInBounds_toArray, List.set_cons_zero, List.set_cons_succ])
        refine wpAnyH_ready (rs := [4]) (by kernel_rfl) (by simp) ?_
        refine AllReadyH.cons (o := ({ dst := some 33, op := .buildSlice 22 2 #[(0, .tmp 31), (1, .tmp 32)], type := 22, pos := "law.go:21", after := #[⟨2, .data⟩, ⟨3, .data⟩], guard := none } : Go.Oper)) rfl (fun K hK => ?_) AllReadyH.nil
        go_simp; (first | refine k_allocD (w0 := W3) ?_ (fun hb => ?_) | refine k_alloc (w0 := W3) ?_ (fun hb => ?_)); exact (by with_reducible (repeat (first | exact Ext.rfl_ _ | assumption | refine Ext.drew ?_ | refine Ext.drewN ?_ _ | refine Ext.alloc ?_ _ | refine Ext.trans ?_ (by assumption)))); (try simp only [World.size_alloc] at hb); have HL2 := Lib.hid (rdT2 (t := kt3) (t' := kt2) hb.1 rfl rfl rfl rfl rfl rfl (HT3.out.ext (by with_reducible (repeat (first | exact Ext.rfl_ _ | assumption | refine Ext.drew ?_ | refine Ext.drewN ?_ _ | refine Ext.alloc ?_ _ | refine Ext.trans ?_ (by assumption))))) (HT2.out.ext (by with_reducible (repeat (first | exact Ext.rfl_ _ | assumption | refine Ext.drew ?_ | refine Ext.drewN ?_ _ | refine Ext.alloc ?_ _ | refine Ext.trans ?_ (by assumption)))))); clear hb
        refine hK.out _ _ (by exact HS3.out _ (by with_reducible (repeat (first | assumption | exact .rfl_ _ | refine .drew ?_ | refine .alloc ?_ _ | refine .setCell ?_ (by omega) _ | refine .trans ?_ (by assumption))))) (fun _ => ?_)
        clear hK K
        (try simp only [Act.put, List.getElem_toArray, List.getElem_cons_zero, List.getElem_cons_succ, List.setIfInBounds_toArray, List.set_cons_zero, List.set_cons_succ])
        refine wpAnyH_ready (rs := [5]) (by kernel_rfl) (by simp) ?_
        refine AllReadyH.cons (o := ({ dst := some 34, op := .build 28 #[(0, .tmp 30), (1, .tmp 33), (2, .const (.int .i64 4)), (5, .const (.int .i64 3))], type := 28, pos := "law.go:21", after := #[⟨1, .data⟩, ⟨4, .data⟩], guard := none } : Go.Oper)) rfl (fun K hK => ?_) AllReadyH.nil
        go_simp
        refine hK.out _ _ (by exact HS3.out _ (by with_reducible (repeat (first | assumption | exact .rfl_ _ | refine .drew ?_ | refine .alloc ?_ _ | refine .setCell ?_ (by omega) _ | refine .trans ?_ (by assumption))))) (fun _ => ?_)
        clear hK K
        (try simp only [Act.put, List.getElem_toArray, List.getElem_cons_zero, List.getElem_cons_succ, List.setIfInBounds_toArray, List.set_cons_zero, List.set_cons_succ])
        refine wpAnyH_ready (rs := [6]) (by kernel_rfl) (by simp) ?_
        refine AllReadyH.cons (o := ({ dst := some 35, op := .call { callee := .value (.func 7), args := #[.tmp 29, .tmp 34], argTypes := #[24, 28] }, type := 33, pos := "law.go:21", after := #[⟨0, .data⟩, ⟨5, .data⟩, ⟨3, .chain⟩], guard := none } : Go.Oper)) rfl (fun K hK => ?_) AllReadyH.nil
        go_simp; refine (kdo2_any A2 c2 _ _ _ (HR3.out.ext (by with_reducible (repeat (first | exact Ext.rfl_ _ | assumption | refine Ext.drew ?_ | refine Ext.drewN ?_ _ | refine Ext.alloc ?_ _ | refine Ext.trans ?_ (by assumption))))) HC2.out (rdN1 (blkX HDB.out (by with_reducible (repeat (first | exact Ext.rfl_ _ | assumption | refine Ext.drew ?_ | refine Ext.drewN ?_ _ | refine Ext.alloc ?_ _ | refine Ext.trans ?_ (by assumption))))) ⟨by decide, by decide⟩) (HL2.out.ext (by with_reducible (repeat (first | exact Ext.rfl_ _ | assumption | refine Ext.drew ?_ | refine Ext.drewN ?_ _ | refine Ext.alloc ?_ _ | refine Ext.trans ?_ (by assumption)))))).mono ?_; rintro e wd ⟨b4, A4, c4, rfl, ho4, hc4, hx⟩; have HO4 := Lib.hid ho4; have HC4 := Lib.hid hc4; clear hc4 ho4; (try (have HBO := Lib.hid (blkX HBO.out (show Ext _ wd from (by with_reducible (repeat (first | exact Ext.rfl_ _ | assumption | refine Ext.drew ?_ | refine Ext.drewN ?_ _ | refine Ext.alloc ?_ _ | refine Ext.trans ?_ (by assumption)))))))); (try (go_wp2_with fail))
        refine hK.out _ _ (by exact HS3.out _ (by with_reducible (repeat (first | assumption | exact .rfl_ _ | refine .drew ?_ | refine .alloc ?_ _ | refine .setCell ?_ (by omega) _ | refine .trans ?_ (by assumption))))) (fun _ => ?_)
        clear hK K
        refine wpAnyH_take (i := 7) (oi := ({ dst := some 28, op := .move (.tmp 35), type := 33, pos := "law.go:21", after := #[⟨6, .data⟩], guard := none } : Go.Oper)) (v := ?v54) rfl (by kernel_rfl) (by kernel_rfl) (by kernel_rfl) (fun _ _ _ h => h) (Or.inl ⟨by rfl, ?hy54⟩) (by assumption) ?rest54
        case hy54 => (intro w hSw; (try dsimp only at hSw); go_simp; (try with_reducible rfl))
        refine wpAnyH_take (i := 8) (oi := ({ dst := some 36, op := .extract (.tmp 28) 0, type := 24, pos := "law.go:21", after := #[⟨7, .data⟩], guard := none } : Go.Oper)) (v := ?v55) rfl (by kernel_rfl) (by kernel_rfl) (by kernel_rfl) (fun _ _ _ h => h) (Or.inl ⟨by rfl, ?hy55⟩) (by assumption) ?rest55
        case hy55 => (intro w hSw; (try dsimp only at hSw); go_simp; (try with_reducible rfl))
        refine wpAnyH_take (i := 9) (oi := ({ dst := some 37, op := .extract (.tmp 28) 1, type := 29, pos := "law.go:21", after := #[⟨7, .data⟩, ⟨11, .gcOnly .lateStores⟩], guard := none } : Go.Oper)) (v := ?v56) rfl (by kernel_rfl) (by kernel_rfl) (by kernel_rfl) (fun _ _ _ h => h) (Or.inl ⟨by rfl, ?hy56⟩) (by assumption) ?rest56
        case hy56 => (intro w hSw; (try dsimp only at hSw); go_simp; (try with_reducible rfl))
        (try simp only [Act.put, List.getElem_toArray, List.getElem_cons_zero, List.getElem_cons_succ, List.setIfInBounds_toArray, List.set_cons_zero, List.set_cons_succ])
        refine wpAnyH_ready (rs := [11]) (by kernel_rfl) (by simp) ?_
        refine AllReadyH.cons (o := ({ dst := none, op := .store 24 (.tmp 3) (.tmp 36), type := 0, pos := "law.go:21", after := #[⟨10, .data⟩, ⟨8, .data⟩, ⟨6, .chain⟩, ⟨0, .phase⟩, ⟨1, .phase⟩, ⟨2, .phase⟩, ⟨3, .phase⟩, ⟨4, .phase⟩, ⟨5, .phase⟩, ⟨6, .phase⟩, ⟨7, .phase⟩, ⟨8, .phase⟩, ⟨9, .textOnly .lateStores⟩, ⟨10, .phase⟩], guard := none } : Go.Oper)) rfl (fun K hK => ?_) AllReadyH.nil
        obtain ⟨o0, o1, o2, o3, o4, p0, p1, p2, p3, p4⟩ := box5 HBO.out (Ext.rfl_ _); go_simp
        refine hK.out _ _ (by exact HS3.out _ (by with_reducible (repeat (first | assumption | exact .rfl_ _ | refine .drew ?_ | refine .alloc ?_ _ | refine .setCell ?_ (by omega) _ | refine .trans ?_ (by assumption))))) (fun _ => ?_)
        clear hK K
        refine wpAnyH_take (i := 12) (oi := ({ dst := some 2, op := .assign (.tmp 37), type := 29, pos := "law.go:21", after := #[⟨9, .data⟩, ⟨11, .chain⟩, ⟨0, .phase⟩, ⟨1, .phase⟩, ⟨2, .phase⟩, ⟨3, .phase⟩, ⟨4, .phase⟩, ⟨5, .phase⟩, ⟨6, .phase⟩, ⟨7, .phase⟩, ⟨8, .phase⟩, ⟨9, .phase⟩, ⟨10, .phase⟩, ⟨11, .phase⟩], guard := none } : Go.Oper)) (v := ?v57) rfl (by kernel_rfl) (by kernel_rfl) (by kernel_rfl) (fun _ _ _ h => h) (Or.inl ⟨by rfl, ?hy57⟩) (by assumption) ?rest57
        case hy57 => (intro w hSw; (try dsimp only at hSw); go_simp; (try with_reducible rfl))
        (try simp only [Act.put, List.getElem_toArray, List.getElem_cons_zero, List.getElem_cons_succ, List.setIfInBounds_toArray, List.set_cons_zero, List.set_cons_succ])
        refine wpAnyH_done (by kernel_rfl) ?_ _
      case' more33 =>
       refine AllReadyH.cons (o := ({ dst := some 32, op := .call { callee := .value (.func 11), args := #[.const (.int .i64 2), .const (.int .i64 1), .const (.int .u8 97), .const (.int .u8 98)], argTypes := #[2, 3, 5, 5] }, type := 42, pos := "law.go:21", after := #[⟨2, .chain⟩], guard := none } : Go.Oper)) rfl (fun K hK => ?one58) ?more58
       case' one58 =>
        go_simp; refine (ltab_any 2 1 97 98 _ ⟨by decide, by decide⟩ ⟨by decide, by decide⟩).mono ?_; rintro e wt2 ⟨At2, ct2, Bt2, dt2, rfl, hrt2, hwt2⟩; have HT2 := Lib.hid (show RdT wt2 _ kt2 from hrt2); clear hrt2; (try (have HBO := Lib.hid (blkX HBO.out (show Ext _ wt2 from (by with_reducible (repeat (first | exact Ext.rfl_ _ | assumption | refine Ext.drew ?_ | refine Ext.drewN ?_ _ | refine Ext.alloc ?_ _ | refine Ext.trans ?_ (by assumption)))))))); (try (go_wp2_with fail))
        refine hK.out _ _ (by exact HS3.out _ (by with_reducible (repeat (first | assumption | exact .rfl_ _ | refine .drew ?_ | refine .alloc ?_ _ | refine .setCell ?_ (by omega) _ | refine .trans ?_ (by assumption))))) (fun _ => ?_)
        clear hK K
        (try simp only [Act.put, List.getElem_toArray, List.getElem_cons_zero, List.getElem_cons_succ, List.setIfInBounds_toArray, List.set_cons_zero, List.set_cons_succ])
        refine wpAnyH_ready (rs := [1, 4, 10]) (by kernel_rfl) (by simp) ?_
        refine AllReadyH.cons (o := ({ dst := some 30, op := .buildSlice 26 1 #[(0, .const (.int .i64 1))], type := 26, pos := "law.go:21", after := #[], guard := none } : Go.Oper)) rfl (fun K hK => ?one59) ?more59
        case' one59 =>
         go_simp; (first | refine k_allocD (w0 := W3) ?_ (fun hb => ?_) | refine k_alloc (w0 := W3) ?_ (fun hb => ?_)); exact (by with_reducible (repeat (first | exact Ext.rfl_ _ | assumption | refine Ext.drew ?_ | refine Ext.drewN ?_ _ | refine Ext.alloc ?_ _ | refine Ext.trans ?_ (by assumption)))); (try simp only [World.size_alloc] at hb); have HDB := Lib.hid hb.1; clear hb
         refine hK.out _ _ (by exact HS3.out _ (by with_reducible (repeat (first | assumption | exact .rfl_ _ | refine .drew ?_ | refine .alloc ?_ _ | refine .setCell ?_ (by omega) _ | refine .trans ?_ (by assumption))))) (fun _ => ?_)
         clear hK K
         (try simp only [Act.put, List.getElem_toArray, List.getElem_cons_zero, List.getElem_cons_succ, List.setIfInBounds_toArray, List.set_cons_zero, List.set_cons_succ])
         refine wpAnyH_ready (rs := [4, 10]) (by kernel_rfl) (by simp) ?_
         refine AllReadyH.cons (o := ({ dst := some 33, op := .buildSlice 22 2 #[(0, .tmp 31), (1, .tmp 32)], type := 22, pos := "law.go:21", after := #[⟨2, .data⟩, ⟨3, .data⟩], guard := none } : Go.Oper)) rfl (fun K hK => ?one60) ?more60
         case' one60 =>
          go_simp; (first | refine k_allocD (w0 := W3) ?_ (fun hb => ?_) | refine k_alloc (w0 := W3) ?_ (fun hb => ?_)); exact (by with_reducible (repeat (first | exact Ext.rfl_ _ | assumption | refine Ext.drew ?_ | refine Ext.drewN ?_ _ | refine Ext.alloc ?_ _ | refine Ext.trans ?_ (by assumption)))); (try simp only [World.size_alloc] at hb); have HL2 := Lib.hid (rdT2 (t := kt3) (t' := kt2) hb.1 rfl rfl rfl rfl rfl rfl (HT3.out.ext (by with_reducible (repeat (first | exact Ext.rfl_ _ | assumption | refine Ext.drew ?_ | refine Ext.drewN ?_ _ | refine Ext.alloc ?_ _ | refine Ext.trans ?_ (by assumption))))) (HT2.out.ext (by with_reducible (repeat (first | exact Ext.rfl_ _ | assumption | refine Ext.drew ?_ | refine Ext.drewN ?_ _ | refine Ext.alloc ?_ _ | refine Ext.trans ?_ (by assumption)))))); clear hb
          refine hK.out _ _ (by exact HS3.out _ (by with_reducible (repeat (first | assumption | exact .rfl_ _ | refine .drew ?_ | refine .alloc ?_ _ | refine .setCell ?_ (by omega) _ | refine .trans ?_ (by assumption))))) (fun _ => ?_)
          clear hK K
          (try simp only [Act.put, List.getElem_toArray, List.getElem_cons_zero, List.getElem_cons_succ, List.setIfInBounds_toArray, List.set_cons_zero, List.set_cons_succ])
          refine wpAnyH_ready (rs := [5, 10]) (by kernel_rfl) (by simp) ?_
          refine AllReadyH.cons (o := ({ dst := some 34, op := .build 28 #[(0, .tmp 30), (1, .tmp 33), (2, .const (.int .i64 4)), (5, .const (.int .i64 3))], type := 28, pos := "law.go:21", after := #[⟨1, .data⟩, ⟨4, .data⟩], guard := none } : Go.Oper)) rfl (fun K hK => ?one61) ?more61
          case' one61 =>
           go_simp
           refine hK.out _ _ (by exact HS3.out _ (by with_reducible (repeat (first | assumption | exact .rfl_ _ | refine .drew ?_ | refine .alloc ?_ _ | refine .setCell ?_ (by omega) _ | refine .trans ?_ (by assumption))))) (fun _ => ?_)
           clear hK K
           (try simp only [Act.put, List.getElem_toArray, List.getElem_cons_zero, List.getElem_cons_succ, List.setIfInBounds_toArray, List.set_cons_zero, List.set_cons_succ])
           refine wpAnyH_ready (rs := [6, 10]) (by kernel_rfl) (by simp) ?_
           refine AllReadyH.cons (o := ({ dst := some 35, op := .call { callee := .value (.func 7), args := #[.tmp 29, .tmp 34], argTypes := #[24, 28] }, type := 33, pos := "law.go:21", after := #[⟨0, .data⟩, ⟨5, .data⟩, ⟨3, .chain⟩], guard := none } : Go.Oper)) rfl (fun K hK => ?one62) ?more62
           case' one62 =>
            go_simp; refine (kdo2_any A2 c2 _ _ _ (HR3.out.ext (by with_reducible (repeat (first | exact Ext.rfl_ _ | assumption | refine Ext.drew ?_ | refine Ext.drewN ?_ _ | refine Ext.alloc ?_ _ | refine Ext.trans ?_ (by assumption))))) HC2.out (rdN1 (blkX HDB.out (by with_reducible (repeat (first | exact Ext.rfl_ _ | assumption | refine Ext.drew ?_ | refine Ext.drewN ?_ _ | refine Ext.alloc ?_ _ | refine Ext.trans ?_ (by assumption))))) ⟨by decide, by decide⟩) (HL2.out.ext (by with_reducible (repeat (first | exact Ext.rfl_ _ | assumption | refine Ext.drew ?_ | refine Ext.drewN ?_ _ | refine Ext.alloc ?_ _ | refine Ext.trans ?_ (by assumption)))))).mono ?_; rintro e wd ⟨b4, A4, c4, rfl, ho4, hc4, hx⟩; have HO4 := Lib.hid ho4; have HC4 := Lib.hid hc4; clear hc4 ho4; (try (have HBO := Lib.hid (blkX HBO.out (show Ext _ wd from (by with_reducible (repeat (first | exact Ext.rfl_ _ | assumption | refine Ext.drew ?_ | refine Ext.drewN ?_ _ | refine Ext.alloc ?_ _ | refine Ext.trans ?_ (by assumption)))))))); (try (go_wp2_with fail))
            refine hK.out _ _ (by exact HS3.out _ (by with_reducible (repeat (first | assumption | exact .rfl_ _ | refine .drew ?_ | refine .alloc ?_ _ | refine .setCell ?_ (by omega) _ | refine .trans ?_ (by assumption))))) (fun _ => ?_)
            clear hK K
            refine wpAnyH_take (i := 7) (oi := ({ dst := some 28, op := .move (.tmp 35), type := 33, pos := "law.go:21", after := #[⟨6, .data⟩], guard := none } : Go.Oper)) (v := ?v63) rfl (by kernel_rfl) (by kernel_rfl) (by kernel_rfl) (fun _ _ _ h => h) (Or.inl ⟨by rfl, ?hy63⟩) (by assumption) ?rest63
            case hy63 => (intro w hSw; (try dsimp only at hSw); go_simp; (try with_reducible rfl))
            refine wpAnyH_take (i := 8) (oi := ({ dst := some 36, op := .extract (.tmp 28) 0, type := 24, pos := "law.go:21", after := #[⟨7, .data⟩], guard := none } : Go.Oper)) (v := ?v64) rfl (by kernel_rfl) (by kernel_rfl) (by kernel_rfl) (fun _ _ _ h => h) (Or.inl ⟨by rfl, ?hy64⟩) (by assumption) ?rest64
            case hy64 => (intro w hSw; (try dsimp only at hSw); go_simp; (try with_reducible rfl))
            refine wpAnyH_take (i := 9) (oi := ({ dst := some 37, op := .extract (.tmp 28) 1, type := 29, pos := "law.go:21", after := #[⟨7, .data⟩, ⟨11, .gcOnly .lateStores⟩], guard := none } : Go.Oper)) (v := ?v65) rfl (by kernel_rfl) (by kernel_rfl) (by kernel_rfl) (fun _ _ _ h => h) (Or.inl ⟨by rfl, ?hy65⟩) (by assumption) ?rest65
            case hy65 => (intro w hSw; (try dsimp only at hSw); go_simp; (try with_reducible rfl))
            (try simp only [Act.put, List.getElem_toArray, List.getElem_cons_zero, List.getElem_cons_succ, List.setIfInBounds_toArray, List.set_cons_zero, List.set_cons_succ])
            refine wpAnyH_ready (rs := [10]) (by kernel_rfl) (by simp) ?_
            refine AllReadyH.cons (o := ({ dst := some 3, op := .alloc 24, type := 0, pos := "law.go:21", after := #[], guard := none } : Go.Oper)) rfl (fun K hK => ?_) AllReadyH.nil
            go_simp; (first | refine k_allocD (w0 := W3) ?_ (fun hb => ?_) | refine k_alloc (w0 := W3) ?_ (fun hb => ?_)); exact (by with_reducible (repeat (first | exact Ext.rfl_ _ | assumption | refine Ext.drew ?_ | refine Ext.drewN ?_ _ | refine Ext.alloc ?_ _ | refine Ext.trans ?_ (by assumption)))); (try simp only [World.size_alloc] at hb); have HBO := Lib.hid hb.1; have zo := hb.2; clear hb; (try have ALAST := Lib.hid HC4.out)
            refine hK.out _ _ (by exact HS3.out _ (by with_reducible (repeat (first | assumption | exact .rfl_ _ | refine .drew ?_ | refine .alloc ?_ _ | refine .setCell ?_ (by omega) _ | refine .trans ?_ (by assumption))))) (fun _ => ?_)
            clear hK K
            (try simp only [Act.put, List.getElem_toArray, List.getElem_cons_zero, List.getElem_cons_succ, List.setIfInBounds_toArray, List.set_cons_zero, List.set_cons_succ])
            refine wpAnyH_ready (rs := [11]) (by kernel_rfl) (by simp) ?_
            refine AllReadyH.cons (o := ({ dst := none, op := .store 24 (.tmp 3) (.tmp 36), type := 0, pos := "law.go:21", after := #[⟨10, .data⟩, ⟨8, .data⟩, ⟨6, .chain⟩, ⟨0, .phase⟩, ⟨1, .phase⟩, ⟨2, .phase⟩, ⟨3, .phase⟩, ⟨4, .phase⟩, ⟨5, .phase⟩, ⟨6, .phase⟩, ⟨7, .phase⟩, ⟨8, .phase⟩, ⟨9, .textOnly .lateStores⟩, ⟨10, .phase⟩], guard := none } : Go.Oper)) rfl (fun K hK => ?_) AllReadyH.nil
            obtain ⟨o0, o1, o2, o3, o4, p0, p1, p2, p3, p4⟩ := box5 HBO.out (Ext.rfl_ _); go_simp
            refine hK.out _ _ (by exact HS3.out _ (by with_reducible (repeat (first | assumption | exact .rfl_ _ | refine .drew ?_ | refine .alloc ?_ _ | refine .setCell ?_ (by omega) _ | refine .trans ?_ (by assumption))))) (fun _ => ?_)
            clear hK K
            refine wpAnyH_take (i := 12) (oi := ({ dst := some 2, op := .assign (.tmp 37), type := 29, pos := "law.go:21", after := #[⟨9, .data⟩, ⟨11, .chain⟩, ⟨0, .phase⟩, ⟨1, .phase⟩, ⟨2, .phase⟩, ⟨3, .phase⟩, ⟨4, .phase⟩, ⟨5, .phase⟩, ⟨6, .phase⟩, ⟨7, .phase⟩, ⟨8, .phase⟩, ⟨9, .phase⟩, ⟨10, .phase⟩, ⟨11, .phase⟩], guard := none } : Go.Oper)) (v := ?v66) rfl (by kernel_rfl) (by kernel_rfl) (by kernel_rfl) (fun _ _ _ h => h) (Or.inl ⟨by rfl, ?hy66⟩) (by assumption) ?rest66
            case hy66 => (intro w hSw; (try dsimp only at hSw); go_simp; (try with_reducible rfl))
            (try simp only [Act.put, List.getElem_toArray, List.getElem_cons_zero, List.getElem_cons_succ, List.setIfInBounds_toArray, List.set_cons_zero, List.set_cons_succ])
            refine wpAnyH_done (by kernel_rfl) ?_ _
           case' more62 =>
            refine AllReadyH.cons (o := ({ dst := some 3, op := .alloc 24, type := 0, pos := "law.go:21", after := #[], guard := none } : Go.Oper)) rfl (fun K hK => ?_) AllReadyH.nil
            go_simp; (first | refine k_allocD (w0 := W3) ?_ (fun hb => ?_) | refine k_alloc (w0 := W3) ?_ (fun hb => ?_)); exact (by with_reducible (repeat (first | exact Ext.rfl_ _ | assumption | refine Ext.drew ?_ | refine Ext.drewN ?_ _ | refine Ext.alloc ?_ _ | refine Ext.trans ?_ (by assumption)))); (try simp only [World.size_alloc] at hb); have HBO := Lib.hid hb.1; have zo := hb.2; clear hb; (try have ALAST := Lib.hid HC4.out)
            refine hK.out _ _ (by exact HS3.out _ (by with_reducible (repeat (first | assumption | exact .rfl_ _ | refine .drew ?_ | refine .alloc ?_ _ | refine .setCell ?_ (by omega) _ | refine .trans ?_ (by assumption))))) (fun _ => ?_)
            clear hK K
            (try simp only [Act.put, List.getElem_toArray, List.getElem_cons_zero, List.getElem_cons_succ, List.setIfInBounds_toArray, List.set_cons_zero, List.set_cons_succ])
            refine wpAnyH_ready (rs := [6]) (by kernel_rfl) (by simp) ?_
            refine AllReadyH.cons (o := ({ dst := some 35, op := .call { callee := .value (.func 7), args := #[.tmp 29, .tmp 34], argTypes := #[24, 28] }, type := 33, pos := "law.go:21", after := #[⟨0, .data⟩, ⟨5, .data⟩, ⟨3, .chain⟩], guard := none } : Go.Oper)) rfl (fun K hK => ?_) AllReadyH.nil
            go_simp; refine (kdo2_any A2 c2 _ _ _ (HR3.out.ext (by with_reducible (repeat (first | exact Ext.rfl_ _ | assumption | refine Ext.drew ?_ | refine Ext.drewN ?_ _ | refine Ext.alloc ?_ _ | refine Ext.trans ?_ (by assumption))))) HC2.out (rdN1 (blkX HDB.out (by with_reducible (repeat (first | exact Ext.rfl_ _ | assumption | refine Ext.drew ?_ | refine Ext.drewN ?_ _ | refine Ext.alloc ?_ _ | refine Ext.trans ?_ (by assumption))))) ⟨by decide, by decide⟩) (HL2.out.ext (by with_reducible (repeat (first | exact Ext.rfl_ _ | assumption | refine Ext.drew ?_ | refine Ext.drewN ?_ _ | refine Ext.alloc ?_ _ | refine Ext.trans ?_ (by assumption)))))).mono ?_; rintro e wd ⟨b4, A4, c4, rfl, ho4, hc4, hx⟩; have HO4 := Lib.hid ho4; have HC4 := Lib.hid hc4; clear hc4 ho4; (try (have HBO := Lib.hid (blkX HBO.out (show Ext _ wd from (by with_reducible (repeat (first | exact Ext.rfl_ _ | assumption | refine Ext.drew ?_ | refine Ext.drewN ?_ _ | refine Ext.alloc ?_ _ | refine Ext.trans ?_ (by assumption)))))))); (try (go_wp2_with fail))
            refine hK.out _ _ (by exact HS3.out _ (by with_reducible (repeat (first | assumption | exact .rfl_ _ | refine .drew ?_ | refine .alloc ?_ _ | refine .setCell ?_ (by omega) _ | refine .trans ?_ (by assumption))))) (fun _ => ?_)
            clear hK K
            refine wpAnyH_take (i := 7) (oi := ({ dst := some 28, op := .move (.tmp 35), type := 33, pos := "law.go:21", after := #[⟨6, .data⟩], guard := none } : Go.Oper)) (v := ?v67) rfl (by kernel_rfl) (by kernel_rfl) (by kernel_rfl) (fun _ _ _ h => h) (Or.inl ⟨by rfl, ?hy67⟩) (by assumption) ?rest67
            case hy67 => (intro w hSw; (try dsimp only at hSw); go_simp; (try with_reducible rfl))
            refine wpAnyH_take (i := 8) (oi := ({ dst := some 36, op := .extract (.tmp 28) 0, type := 24, pos := "law.go:21", after := #[⟨7, .data⟩], guard := none } : Go.Oper)) (v := ?v68) rfl (by kernel_rfl) (by kernel_rfl) (by kernel_rfl) (fun _ _ _ h => h) (Or.inl ⟨by rfl, ?hy68⟩) (by assumption) ?rest68
            case hy68 => (intro w hSw; (try dsimp only at hSw); go_simp; (try with_reducible rfl))
            refine wpAnyH_take (i := 9) (oi := ({ dst := some 37, op := .extract (.tmp 28) 1, type := 29, pos := "law.go:21", after := #[⟨7, .data⟩, ⟨11, .gcOnly .lateStores⟩], guard := none } : Go.Oper)) (v := ?v69) rfl (by kernel_rfl) (by kernel_rfl) (by kernel_rfl) (fun _ _ _ h => h) (Or.inl ⟨by rfl, ?hy69⟩) (by assumption) ?rest69
            case hy69 => (intro w hSw; (try dsimp only at hSw); go_simp; (try with_reducible rfl))
            (try simp only [Act.put, List.getElem_toArray, List.getElem_cons_zero, List.getElem_cons_succ, List.setIfInBounds_toArray, List.set_cons_zero, List.set_cons_succ])
            refine wpAnyH_ready (rs := [11]) (by kernel_rfl) (by simp) ?_
            refine AllReadyH.cons (o := ({ dst := none, op := .store 24 (.tmp 3) (.tmp 36), type := 0, pos := "law.go:21", after := #[⟨10, .data⟩, ⟨8, .data⟩, ⟨6, .chain⟩, ⟨0, .phase⟩, ⟨1, .phase⟩, ⟨2, .phase⟩, ⟨3, .phase⟩, ⟨4, .phase⟩, ⟨5, .phase⟩, ⟨6, .phase⟩, ⟨7, .phase⟩, ⟨8, .phase⟩, ⟨9, .textOnly .lateStores⟩, ⟨10, .phase⟩], guard := none } : Go.Oper)) rfl (fun K hK => ?_) AllReadyH.nil
            obtain ⟨o0, o1, o2, o3, o4, p0, p1, p2, p3, p4⟩ := box5 HBO.out (Ext.rfl_ _); go_simp
            refine hK.out _ _ (by exact HS3.out _ (by with_reducible (repeat (first | assumption | exact .rfl_ _ | refine .drew ?_ | refine .alloc ?_ _ | refine .setCell ?_ (by omega) _ | refine .trans ?_ (by assumption))))) (fun _ => ?_)
            clear hK K
            refine wpAnyH_take (i := 12) (oi := ({ dst := some 2, op := .assign (.tmp 37), type := 29, pos := "law.go:21", after := #[⟨9, .data⟩, ⟨11, .chain⟩, ⟨0, .phase⟩, ⟨1, .phase⟩, ⟨2, .phase⟩, ⟨3, .phase⟩, ⟨4, .phase⟩, ⟨5, .phase⟩, ⟨6, .phase⟩, ⟨7, .phase⟩, ⟨8, .phase⟩, ⟨9, .phase⟩, ⟨10, .phase⟩, ⟨11, .phase⟩], guard := none } : Go.Oper)) (v := ?v70) rfl (by kernel_rfl) (by kernel_rfl) (by kernel_rfl) (fun _ _ _ h => h) (Or.inl ⟨by rfl, ?hy70⟩) (by assumption) ?rest70
            case hy70 => (intro w hSw; (try dsimp only at hSw); go_simp; (try with_reducible rfl))
            (try simp only [Act.put, List.getElem_toArray, List.getElem_cons_zero, List.getElem_cons_succ, List.setIfInBounds_toArray, List.set_cons_zero, List.set_cons_succ])
            refine wpAnyH_done (by kernel_rfl) ?_ _
          case' more61 =>
           refine AllReadyH.cons (o := ({ dst := some 3, op := .alloc 24, type := 0, pos := "law.go:21", after := #[], guard := none } : Go.Oper)) rfl (fun K hK => ?_) AllReadyH.nil
           go_simp; (first | refine k_allocD (w0 := W3) ?_ (fun hb => ?_) | refine k_alloc (w0 := W3) ?_ (fun hb => ?_)); exact (by with_reducible (repeat (first | exact Ext.rfl_ _ | assumption | refine Ext.drew ?_ | refine Ext.drewN ?_ _ | refine Ext.alloc ?_ _ | refine Ext.trans ?_ (by assumption)))); (try simp only [World.size_alloc] at hb); have HBO := Lib.hid hb.1; have zo := hb.2; clear hb; (try have ALAST := Lib.hid HC4.out)
           refine hK.out _ _ (by exact HS3.out _ (by with_reducible (repeat (first | assumption | exact .rfl_ _ | refine .drew ?_ | refine .alloc ?_ _ | refine .setCell ?_ (by omega) _ | refine .trans ?_ (by assumption))))) (fun _ => ?_)
           clear hK K
           (try simp only [Act.put, List.getElem_toArray, List.getElem_cons_zero, List.getElem_cons_succ, List.setIfInBounds_toArray, List.set_cons_zero, List.set_cons_succ])
           refine wpAnyH_ready (rs := [5]) (by kernel_rfl) (by simp) ?_
           refine AllReadyH.cons (o := ({ dst := some 34, op := .build 28 #[(0, .tmp 30), (1, .tmp 33), (2, .const (.int .i64 4)), (5, .const (.int .i64 3))], type := 28, pos := "law.go:21", after := #[⟨1, .data⟩, ⟨4, .data⟩], guard := none } : Go.Oper)) rfl (fun K hK => ?_) AllReadyH.nil
           go_simp
           refine hK.out _ _ (by exact HS3.out _ (by with_reducible (repeat (first | assumption | exact .rfl_ _ | refine .drew ?_ | refine .alloc ?_ _ | refine .setCell ?_ (by omega) _ | refine .trans ?_ (by assumption))))) (fun _ => ?_)
           clear hK K
           (try simp only [Act.put, List.getElem_toArray, List.getElem_cons_zero, List.getElem_cons_succ, List.setIfInBounds_toArray, List.set_cons_zero, List.set_cons_succ])
           refine wpAnyH_ready (rs := [6]) (by kernel_rfl) (by simp) ?_
           refine AllReadyH.cons (o := ({ dst := some 35, op := .call { callee := .value (.func 7), args := #[.tmp 29, .tmp 34], argTypes := #[24, 28] }, type := 33, pos := "law.go:21", after := #[⟨0, .data⟩, ⟨5, .data⟩, ⟨3, .chain⟩], guard := none } : Go.Oper)) rfl (fun K hK => ?_) AllReadyH.nil
           go_simp; refine (kdo2_any A2 c2 _ _ _ (HR3.out.ext (by with_reducible (repeat (first | exact Ext.rfl_ _ | assumption | refine Ext.drew ?_ | refine Ext.drewN ?_ _ | refine Ext.alloc ?_ _ | refine Ext.trans ?_ (by assumption))))) HC2.out (rdN1 (blkX HDB.out (by with_reducible (repeat (first | exact Ext.rfl_ _ | assumption | refine Ext.drew ?_ | refine Ext.drewN ?_ _ | refine Ext.alloc ?_ _ | refine Ext.trans ?_ (by assumption))))) ⟨by decide, by decide⟩) (HL2.out.ext (by with_reducible (repeat (first | exact Ext.rfl_ _ | assumption | refine Ext.drew ?_ | refine Ext.drewN ?_ _ | refine Ext.alloc ?_ _ | refine Ext.trans ?_ (by assumption)))))).mono ?_; rintro e wd ⟨b4, A4, c4, rfl, ho4, hc4, hx⟩; have HO4 := Lib.hid ho4; have HC4 := Lib.hid hc4; clear hc4 ho4; (try (have HBO := Lib.hid (blkX HBO.out (show Ext _ wd from (by with_reducible (repeat (first | exact Ext.rfl_ _ | assumption | refine Ext.drew ?_ | refine Ext.drewN ?_ _ | refine Ext.alloc ?_ _ | refine Ext.trans ?_ (by assumption)))))))); (try (go_wp2_with fail))
           refine hK.out _ _ (by exact HS3.out _ (by with_reducible (repeat (first | assumption | exact .rfl_ _ | refine .drew ?_ | refine .alloc ?_ _ | refine .setCell ?_ (by omega) _ | refine .trans ?_ (by assumption))))) (fun _ => ?_)
           clear hK K
           refine wpAnyH_take (i := 7) (oi := ({ dst := some 28, op := .move (.tmp 35), type := 33, pos := "law.go:21", after := #[⟨6, .data⟩], guard := none } : Go.Oper)) (v := ?v71) rfl (by kernel_rfl) (by kernel_rfl) (by kernel_rfl) (fun _ _ _ h => h) (Or.inl ⟨by rfl, ?hy71⟩) (by assumption) ?rest71
           case hy71 => (intro w hSw; (try dsimp only at hSw); go_simp; (try with_reducible rfl))
           refine wpAnyH_take (i := 8) (oi := ({ dst := some 36, op := .extract (.tmp 28) 0, type := 24, pos := "law.go:21", after := #[⟨7, .data⟩], guard := none } : Go.Oper)) (v := ?v72) rfl (by kernel_rfl) (by kernel_rfl) (by kernel_rfl) (fun _ _ _ h => h) (Or.inl ⟨by rfl, ?hy72⟩) (by assumption) ?rest72
           case hy72 => (intro w hSw; (try dsimp only at hSw); go_simp; (try with_reducible rfl))
           refine wpAnyH_take (i := 9) (oi := ({ dst := some 37, op := .extract (.tmp 28) 1, type := 29, pos := "law.go:21", after := #[⟨7, .data⟩, ⟨11, .gcOnly .lateStores⟩], guard := none } : Go.Oper)) (v := ?v73) rfl (by kernel_rfl) (by kernel_rfl) (by kernel_rfl) (fun _ _ _ h => h) (Or.inl ⟨by rfl, ?hy73⟩) (by assumption) ?rest73
           case hy73 => (intro w hSw; (try dsimp only at hSw); go_simp; (try with_reducible rfl))
           (try simp only [Act.put, List.getElem_toArray, List.getElem_cons_zero, List.getElem_cons_succ, List.setIfInBounds_toArray, List.set_cons_zero, List.set_cons_succ])
           refine wpAnyH_ready (rs := [11]) (by kernel_rfl) (by simp) ?_
           refine AllReadyH.cons (o := ({ dst := none, op := .store 24 (.tmp 3) (.tmp 36), type := 0, pos := "law.go:21", after := #[⟨10, .data⟩, ⟨8, .data⟩, ⟨6, .chain⟩, ⟨0, .phase⟩, ⟨1, .phase⟩, ⟨2, .phase⟩, ⟨3, .phase⟩, ⟨4, .phase⟩, ⟨5, .phase⟩, ⟨6, .phase⟩, ⟨7, .phase⟩, ⟨8, .phase⟩, ⟨9, .textOnly .lateStores⟩, ⟨10, .phase⟩], guard := none } : Go.Oper)) rfl (fun K hK => ?_) AllReadyH.nil
           obtain ⟨o0, o1, o2, o3, o4, p0, p1, p2, p3, p4⟩ := box5 HBO.out (Ext.rfl_ _); go_simp
           refine hK.out _ _ (by exact HS3.out _ (by with_reducible (repeat (first | assumption | exact .rfl_ _ | refine .drew ?_ | refine .alloc ?_ _ | refine .setCell ?_ (by omega) _ | refine .trans ?_ (by assumption))))) (fun _ => ?_)
           clear hK K
           refine wpAnyH_take (i := 12) (oi := ({ dst := some 2, op := .assign (.tmp 37), type := 29, pos := "law.go:21", after := #[⟨9, .data⟩, ⟨11, .chain⟩, ⟨0, .phase⟩, ⟨1, .phase⟩, ⟨2, .phase⟩, ⟨3, .phase⟩, ⟨4, .phase⟩, ⟨5, .phase⟩, ⟨6, .phase⟩, ⟨7, .phase⟩, ⟨8, .phase⟩, ⟨9, .phase⟩, ⟨10, .phase⟩, ⟨11, .phase⟩], guard := none } : Go.Oper)) (v := ?v74) rfl (by kernel_rfl) (by kernel_rfl) (by kernel_rfl) (fun _ _ _ h => h) (Or.inl ⟨by rfl, ?hy74⟩) (by assumption) ?rest74
           case hy74 => (intro w hSw; (try dsimp only at hSw); go_simp; (try with_reducible rfl))
           (try simp only [Act.put, List.getElem_toArray, List.getElem_cons_zero, List.getElem_cons_succ, List.setIfInBounds_toArray, List.set_cons_zero, List.set_cons_succ])
           refine wpAnyH_done (by kernel_rfl) ?_ _
         case' more60 =>
          refine AllReadyH.cons (o := ({ dst := some 3, op := .alloc 24, type := 0, pos := "law.go:21", after := #[], guard := none } : Go.Oper)) rfl (fun K hK => ?_) AllReadyH.nil
          go_simp; (first | refine k_allocD (w0 := W3) ?_ (fun hb => ?_) | refine k_alloc (w0 := W3) ?_ (fun hb => ?_)); exact (by with_reducible (repeat (first | exact Ext.rfl_ _ | assumption | refine Ext.drew ?_ | refine Ext.drewN ?_ _ | refine Ext.alloc ?_ _ | refine Ext.trans ?_ (by assumption)))); (try simp only [World.size_alloc] at hb); have HBO := Lib.hid hb.1; have zo := hb.2; clear hb; (try have ALAST := Lib.hid HC4.out)
          refine hK.out _ _ (by exact HS3.out _ (by with_reducible (repeat (first | assumption | exact .rfl_ _ | refine .drew ?_ | refine .alloc ?_ _ | refine .setCell ?_ (by omega) _ | refine .trans ?_ (by assumption))))) (fun _ => ?_)
          clear hK K
          (try simp only [Act.put, List.getElem_toArray, List.getElem_cons_zero, List.getElem_cons_succ, List.setIfInBounds_toArray, List.set_cons_zero, List.set_cons_succ])
          refine wpAnyH_ready (rs := [4]) (by kernel_rfl) (by simp) ?_
          refine AllReadyH.cons (o := ({ dst := some 33, op := .buildSlice 22 2 #[(0, .tmp 31), (1, .tmp 32)], type := 22, pos := "law.go:21", after := #[⟨2, .data⟩, ⟨3, .data⟩], guard := none } : Go.Oper)) rfl (fun K hK => ?_) AllReadyH.nil
          go_simp; (first | refine k_allocD (w0 := W3) ?_ (fun hb => ?_) | refine k_alloc (w0 := W3) ?_ (fun hb => ?_)); exact (by with_reducible (repeat (first | exact Ext.rfl_ _ | assumption | refine Ext.drew ?_ | refine Ext.drewN ?_ _ | refine Ext.alloc ?_ _ | refine Ext.trans ?_ (by assumption)))); (try simp only [World.size_alloc] at hb); have HL2 := Lib.hid (rdT2 (t := kt3) (t' := kt2) hb.1 rfl rfl rfl rfl rfl rfl (HT3.out.ext (by with_reducible (repeat (first | exact Ext.rfl_ _ | assumption | refine Ext.drew ?_ | refine Ext.drewN ?_ _ | refine Ext.alloc ?_ _ | refine Ext.trans ?_ (by assumption))))) (HT2.out.ext (by with_reducible (repeat (first | exact Ext.rfl_ _ | assumption | refine Ext.drew ?_ | refine Ext.drewN ?_ _ | refine Ext.alloc ?_ _ | refine Ext.trans ?_ (by assumption)))))); clear hb
          refine hK.out _ _ (by exact HS3.out _ (by with_reducible (repeat (first | assumption | exact .rfl_ _ | refine .drew ?_ | refine .alloc ?_ _ | refine .setCell ?_ (by omega) _ | refine .trans ?_ (by assumption))))) (fun _ => ?_)
          clear hK K
          (try simp only [Act.put, List.getElem_toArray, List.getElem_cons_zero, List.getElem_cons_succ, List.setIfInBounds_toArray, List.set_cons_zero, List.set_cons_succ])
          refine wpAnyH_ready (rs := [5]) (by kernel_rfl) (by simp) ?_
          refine AllReadyH.cons (o := ({ dst := some 34, op := .build 28 #[(0, .tmp 30), (1, .tmp 33), (2, .const (.int .i64 4)), (5, .const (.int .i64 3))], type := 28, pos := "law.go:21", after := #[⟨1, .data⟩, ⟨4, .data⟩], guard := none } : Go.Oper)) rfl (fun K hK => ?_) AllReadyH.nil
          go_simp
          refine hK.out _ _ (by exact HS3.out _ (by with_reducible (repeat (first | assumption | exact .rfl_ _ | refine .drew ?_ | refine .alloc ?_ _ | refine .setCell ?_ (by omega) _ | refine .trans ?_ (by assumption))))) (fun _ => ?_)
          clear hK K
          (try simp only [Act.put, List.getElem_toArray, List.getElem_cons_zero, List.getElem_cons_succ, List.setIfInBounds_toArray, List.set_cons_zero, List.set_cons_succ])
          refine wpAnyH_ready (rs := [6]) (by kernel_rfl) (by simp) ?_
          refine AllReadyH.cons (o := ({ dst := some 35, op := .call { callee := .value (.func 7), args := #[.tmp 29, .tmp 34], argTypes := #[24, 28] }, type := 33, pos := "law.go:21", after := #[⟨0, .data⟩, ⟨5, .data⟩, ⟨3, .chain⟩], guard := none } : Go.Oper)) rfl (fun K hK => ?_) AllReadyH.nil
          go_simp; refine (kdo2_any A2 c2 _ _ _ (HR3.out.ext (by with_reducible (repeat (first | exact Ext.rfl_ _ | assumption | refine Ext.drew ?_ | refine Ext.drewN ?_ _ | refine Ext.alloc ?_ _ | refine Ext.trans ?_ (by assumption))))) HC2.out (rdN1 (blkX HDB.out (by with_reducible (repeat (first | exact Ext.rfl_ _ | assumption | refine Ext.drew ?_ | refine Ext.drewN ?_ _ | refine Ext.alloc ?_ _ | refine Ext.trans ?_ (by assumption))))) ⟨by decide, by decide⟩) (HL2.out.ext (by with_reducible (repeat (first | exact Ext.rfl_ _ | assumption | refine Ext.drew ?_ | refine Ext.drewN ?_ _ | refine Ext.alloc ?_ _ | refine Ext.trans ?_ (by assumption)))))).mono ?_; rintro e wd ⟨b4, A4, c4, rfl, ho4, hc4, hx⟩; have HO4 := Lib.hid ho4; have HC4 := Lib.hid hc4; clear hc4 ho4; (try (have HBO := Lib.hid (blkX HBO.out (show Ext _ wd from (by with_reducible (repeat (first | exact Ext.rfl_ _ | assumption | refine Ext.drew ?_ | refine Ext.drewN ?_ _ | refine Ext.alloc ?_ _ | refine Ext.trans ?_ (by assumption)))))))); (try (go_wp2_with fail))
          refine hK.out _ _ (by exact HS3.out _ (by with_reducible (repeat (first | assumption | exact .rfl_ _ | refine .drew ?_ | refine .alloc ?_ _ | refine .setCell ?_ (by omega) _ | refine .trans ?_ (by assumption))))) (fun _ => ?_)
          clear hK K
          refine wpAnyH_take (i := 7) (oi := ({ dst := some 28, op := .move (.tmp 35), type := 33, pos := "law.go:21", after := #[⟨6, .data⟩], guard := none } : Go.Oper)) (v := ?v75) rfl (by kernel_rfl) (by kernel_rfl) (by kernel_rfl) (fun _ _ _ h => h) (Or.inl ⟨by rfl, ?hy75⟩) (by assumption) ?rest75
          case hy75 => (intro w hSw; (try dsimp only at hSw); go_simp; (try with_reducible rfl))
          refine wpAnyH_take (i := 8) (oi := ({ dst := some 36, op := .extract (.tmp 28) 0, type := 24, pos := "law.go:21", after := #[⟨7, .data⟩], guard := none } : Go.Oper)) (v := ?v76) rfl (by kernel_rfl) (by kernel_rfl) (by kernel_rfl) (fun _ _ _ h => h) (Or.inl ⟨by rfl, ?hy76⟩) (by assumption) ?rest76
          case hy76 => (intro w hSw; (try dsimp only at hSw); go_simp; (try with_reducible rfl))
          refine wpAnyH_take (i := 9) (oi := ({ dst := some 37, op := .extract (.tmp 28) 1, type := 29, pos := "law.go:21", after := #[⟨7, .data⟩, ⟨11, .gcOnly .lateStores⟩], guard := none } : Go.Oper)) (v := ?v77) rfl (by kernel_rfl) (by kernel_rfl) (by kernel_rfl) (fun _ _ _ h => h) (Or.inl ⟨by rfl, ?hy77⟩) (by assumption) ?rest77
          case hy77 => (intro w hSw; (try dsimp only at hSw); go_simp; (try with_reducible rfl))
          (try simp only [Act.put, List.getElem_toArray, List.getElem_cons_zero, List.getElem_cons_succ, List.setIfInBounds_toArray, List.set_cons_zero, List.set_cons_succ])
          refine wpAnyH_ready (rs := [11]) (by kernel_rfl) (by simp) ?_
          refine AllReadyH.cons (o := ({ dst := none, op := .store 24 (.tmp 3) (.tmp 36), type := 0, pos := "law.go:21", after := #[⟨10, .data⟩, ⟨8, .data⟩, ⟨6, .chain⟩, ⟨0, .phase⟩, ⟨1, .phase⟩, ⟨2, .phase⟩, ⟨3, .phase⟩, ⟨4, .phase⟩, ⟨5, .phase⟩, ⟨6, .phase⟩, ⟨7, .phase⟩, ⟨8, .phase⟩, ⟨9, .textOnly .lateStores⟩, ⟨10, .phase⟩], guard := none } : Go.Oper)) rfl (fun K hK => ?_) AllReadyH.nil
          obtain ⟨o0, o1, o2, o3, o4, p0, p1, p2, p3, p4⟩ := box5 HBO.out (Ext.rfl_ _); go_simp
          refine hK.out _ _ (by exact HS3.out _ (by with_reducible (repeat (first | assumption | exact .rfl_ _ | refine .drew ?_ | refine .alloc ?_ _ | refine .setCell ?_ (by omega) _ | refine .trans ?_ (by assumption))))) (fun _ => ?_)
          clear hK K
          refine wpAnyH_take (i := 12) (oi := ({ dst := some 2, op := .assign (.tmp 37), type := 29, pos := "law.go:21", after := #[⟨9, .data⟩, ⟨11, .chain⟩, ⟨0, .phase⟩, ⟨1, .phase⟩, ⟨2, .phase⟩, ⟨3, .phase⟩, ⟨4, .phase⟩, ⟨5, .phase⟩, ⟨6, .phase⟩, ⟨7, .phase⟩, ⟨8, .phase⟩, ⟨9, .phase⟩, ⟨10, .phase⟩, ⟨11, .phase⟩], guard := none } : Go.Oper)) (v := ?v78) rfl (by kernel_rfl) (by kernel_rfl) (by kernel_rfl) (fun _ _ _ h => h) (Or.inl ⟨by rfl, ?hy78⟩) (by assumption) ?rest78
          case hy78 => (intro w hSw; (try dsimp only at hSw); go_simp; (try with_reducible rfl))
          (try simp only [Act.put, List.getElem_toArray, List.getElem_cons_zero, List.getElem_cons_succ, List.setIfInBounds_toArray, List.set_cons_zero, List.set_cons_succ])
          refine wpAnyH_done (by kernel_rfl) ?_ _
        case' more59 =>
         refine AllReadyH.cons (o := ({ dst := some 33, op := .buildSlice 22 2 #[(0, .tmp 31), (1, .tmp 32)], type := 22, pos := "law.go:21", after := #[⟨2, .data⟩, ⟨3, .data⟩], guard := none } : Go.Oper)) rfl (fun K hK => ?one79) ?more79
         case' one79 =>
          go_simp; (first | refine k_allocD (w0 := W3) ?_ (fun hb => ?_) | refine k_alloc (w0 := W3) ?_ (fun hb => ?_)); exact (by with_reducible (repeat (first | exact Ext.rfl_ _ | assumption | refine Ext.drew ?_ | refine Ext.drewN ?_ _ | refine Ext.alloc ?_ _ | refine Ext.trans ?_ (by assumption)))); (try simp only [World.size_alloc] at hb); have HL2 := Lib.hid (rdT2 (t := kt3) (t' := kt2) hb.1 rfl rfl rfl rfl rfl rfl (HT3.out.ext (by with_reducible (repeat (first | exact Ext.rfl_ _ | assumption | refine Ext.drew ?_ | refine Ext.drewN ?_ _ | refine Ext.alloc ?_ _ | refine Ext.trans ?_ (by assumption))))) (HT2.out.ext (by with_reducible (repeat (first | exact Ext.rfl_ _ | assumption | refine Ext.drew ?_ | refine Ext.drewN ?_ _ | refine Ext.alloc ?_ _ | refine Ext.trans ?_ (by assumption)))))); clear hb
          refine hK.out _ _ (by exact HS3.out _ (by with_reducible (repeat (first | assumption | exact .rfl_ _ | refine .drew ?_ | refine .alloc ?_ _ | refine .setCell ?_ (by omega) _ | refine .trans ?_ (by assumption))))) (fun _ => ?_)
          clear hK K
          (try simp only [Act.put, List.getElem_toArray, List.getElem_cons_zero, List.getElem_cons_succ, List.setIfInBounds_toArray, List.set_cons_zero, List.set_cons_succ])
          refine wpAnyH_ready (rs := [1, 10]) (by kernel_rfl) (by simp) ?_
          refine AllReadyH.cons (o := ({ dst := some 30, op := .buildSlice 26 1 #[(0, .const (.int .i64 1))], type := 26, pos := "law.go:21", after := #[], guard := none } : Go.Oper)) rfl (fun K hK => ?one80) ?more80
          case' one80 =>
           go_simp; (first | refine k_allocD (w0 := W3) ?_ (fun hb => ?_) | refine k_alloc (w0 := W3) ?_ (fun hb => ?_)); exact (by with_reducible (repeat (first | exact Ext.rfl_ _ | assumption | refine Ext.drew ?_ | refine Ext.drewN ?_ _ | refine Ext.alloc ?_ _ | refine Ext.trans ?_ (by assumption)))); (try simp only [World.size_alloc] at hb); have HDB := Lib.hid hb.1; clear hb
           refine hK.out _ _ (by exact HS3.out _ (by with_reducible (repeat (first | assumption | exact .rfl_ _ | refine .drew ?_ | refine .alloc ?_ _ | refine .setCell ?_ (by omega) _ | refine .trans ?_ (by assumption))))) (fun _ => ?_)
           clear hK K
           (try simp only [Act.put, List.getElem_toArray, List.getElem_cons_zero, List.getElem_cons_succ, List.setIfInBounds_toArray, List.set_cons_zero, List.set_cons_succ])
           refine wpAnyH_ready (rs := [5, 10]) (by kernel_rfl) (by simp) ?_
           refine AllReadyH.cons (o := ({ dst := some 34, op := .build 28 #[(0, .tmp 30), (1, .tmp 33), (2, .const (.int .i64 4)), (5, .const (.int .i64 3))], type := 28, pos := "law.go:21", after := #[⟨1, .data⟩, ⟨4, .data⟩], guard := none } : Go.Oper)) rfl (fun K hK => ?one81) ?more81
           case' one81 =>
            go_simp
            refine hK.out _ _ (by exact HS3.out _ (by with_reducible (repeat (first | assumption | exact .rfl_ _ | refine .drew ?_ | refine .alloc ?_ _ | refine .setCell ?_ (by omega) _ | refine .trans ?_ (by assumption))))) (fun _ => ?_)
            clear hK K
            (try simp only [Act.put, List.getElem_toArray, List.getElem_cons_zero, List.getElem_cons_succ, List.setIfInBounds_toArray, List.set_cons_zero, List.set_cons_succ])
            refine wpAnyH_ready (rs := [6, 10]) (by kernel_rfl) (by simp) ?_
            refine AllReadyH.cons (o := ({ dst := some 35, op := .call { callee := .value (.func 7), args := #[.tmp 29, .tmp 34], argTypes := #[24, 28] }, type := 33, pos := "law.go:21", after := #[⟨0, .data⟩, ⟨5, .data⟩, ⟨3, .chain⟩], guard := none } : Go.Oper)) rfl (fun K hK => ?one82) ?more82
            case' one82 =>
             go_simp; refine (kdo2_any A2 c2 _ _ _ (HR3.out.ext (by with_reducible (repeat (first | exact Ext.rfl_ _ | assumption | refine Ext.drew ?_ | refine Ext.drewN ?_ _ | refine Ext.alloc ?_ _ | refine Ext.trans ?_ (by assumption))))) HC2.out (rdN1 (blkX HDB.out (by with_reducible (repeat (first | exact Ext.rfl_ _ | assumption | refine Ext.drew ?_ | refine Ext.drewN ?_ _ | refine Ext.alloc ?_ _ | refine Ext.trans ?_ (by assumption))))) ⟨by decide, by decide⟩) (HL2.out.ext (by with_reducible (repeat (first | exact Ext.rfl_ _ | assumption | refine Ext.drew ?_ | refine Ext.drewN ?_ _ | refine Ext.alloc ?_ _ | refine Ext.trans ?_ (by assumption)))))).mono ?_; rintro e wd ⟨b4, A4, c4, rfl, ho4, hc4, hx⟩; have HO4 := Lib.hid ho4; have HC4 := Lib.hid hc4; clear hc4 ho4; (try (have HBO := Lib.hid (blkX HBO.out (show Ext _ wd from (by with_reducible (repeat (first | exact Ext.rfl_ _ | assumption | refine Ext.drew ?_ | refine Ext.drewN ?_ _ | refine Ext.alloc ?_ _ | refine Ext.trans ?_ (by assumption)))))))); (try (go_wp2_with fail))
             refine hK.out _ _ (by exact HS3.out _ (by with_reducible (repeat (first | assumption | exact .rfl_ _ | refine .drew ?_ | refine .alloc ?_ _ | refine .setCell ?_ (by omega) _ | refine .trans ?_ (by assumption))))) (fun _ => ?_)
             clear hK K
             refine wpAnyH_take (i := 7) (oi := ({ dst := some 28, op := .move (.tmp 35), type := 33, pos := "law.go:21", after := #[⟨6, .data⟩], guard := none } : Go.Oper)) (v := ?v83) rfl (by kernel_rfl) (by kernel_rfl) (by kernel_rfl) (fun _ _ _ h => h) (Or.inl ⟨by rfl, ?hy83⟩) (by assumption) ?rest83
             case hy83 => (intro w hSw; (try dsimp only at hSw); go_simp; (try with_reducible rfl))
             refine wpAnyH_take (i := 8) (oi := ({ dst := some 36, op := .extract (.tmp 28) 0, type := 24, pos := "law.go:21", after := #[⟨7, .data⟩], guard := none } : Go.Oper)) (v := ?v84) rfl (by kernel_rfl) (by kernel_rfl) (by kernel_rfl) (fun _ _ _ h => h) (Or.inl ⟨by rfl, ?hy84⟩) (by assumption) ?rest84
             case hy84 => (intro w hSw; (try dsimp only at hSw); go_simp; (try with_reducible rfl))
             refine wpAnyH_take (i := 9) (oi := ({ dst := some 37, op := .extract (.tmp 28) 1, type := 29, pos := "law.go:21", after := #[⟨7, .data⟩, ⟨11, .gcOnly .lateStores⟩], guard := none } : Go.Oper)) (v := ?v85) rfl (by kernel_rfl) (by kernel_rfl) (by kernel_rfl) (fun _ _ _ h => h) (Or.inl ⟨by rfl, ?hy85⟩) (by assumption) ?rest85
             case hy85 => (intro w hSw; (try dsimp only at hSw); go_simp; (try with_reducible rfl))
             (try simp only [Act.put, List.getElem_toArray, List.getElem_cons_zero, List.getElem_cons_succ, List.setIfInBounds_toArray, List.set_cons_zero, List.set_cons_succ])
             refine wpAnyH_ready (rs := [10]) (by kernel_rfl) (by simp) ?_
             refine AllReadyH.cons (o := ({ dst := some 3, op := .alloc 24, type := 0, pos := "law.go:21", after := #[], guard := none } : Go.Oper)) rfl (fun K hK => ?_) AllReadyH.nil
             go_simp; (first | refine k_allocD (w0 := W3) ?_ (fun hb => ?_) | refine k_alloc (w0 := W3) ?_ (fun hb => ?_)); exact (by with_reducible (repeat (first | exact Ext.rfl_ _ | assumption | refine Ext.drew ?_ | refine Ext.drewN ?_ _ | refine Ext.alloc ?_ _ | refine Ext.trans ?_ (by assumption)))); (try simp only [World.size_alloc] at hb); have HBO := Lib.hid hb.1; have zo := hb.2; clear hb; (try have ALAST := Lib.hid HC4.out)
             refine hK.out _ _ (by exact HS3.out _ (by with_reducible (repeat (first | assumption | exact .rfl_ _ | refine .drew ?_ | refine .alloc ?_ _ | refine .setCell ?_ (by omega) _ | refine .trans ?_ (by assumption))))) (fun _ => ?_)
             clear hK K
             (try simp only [Act.put, List.getElem_toArray, List.getElem_cons_zero, List.getElem_cons_succ, List.setIfInBounds_toArray, List.set_cons_zero, List.set_cons_succ])
             refine wpAnyH_ready (rs := [11]) (by kernel_rfl) (by simp) ?_
             refine AllReadyH.cons (o := ({ dst := none, op := .store 24 (.tmp 3) (.tmp 36), type := 0, pos := "law.go:21", after := #[⟨10, .data⟩, ⟨8, .data⟩, ⟨6, .chain⟩, ⟨0, .phase⟩, ⟨1, .phase⟩, ⟨2, .phase⟩, ⟨3, .phase⟩, ⟨4, .phase⟩, ⟨5, .phase⟩, ⟨6, .phase⟩, ⟨7, .phase⟩, ⟨8, .phase⟩, ⟨9, .textOnly .lateStores⟩, ⟨10, .phase⟩], guard := none } : Go.Oper)) rfl (fun K hK => ?_) AllReadyH.nil
             obtain ⟨o0, o1, o2, o3, o4, p0, p1, p2, p3, p4⟩ := box5 HBO.out (Ext.rfl_ _); go_simp
             refine hK.out _ _ (by exact HS3.out _ (by with_reducible (repeat (first | assumption | exact .rfl_ _ | refine .drew ?_ | refine .alloc ?_ _ | refine .setCell ?_ (by omega) _ | refine .trans ?_ (by assumption))))) (fun _ => ?_)
             clear hK K
             refine wpAnyH_take (i := 12) (oi := ({ dst := some 2, op := .assign (.tmp 37), type := 29, pos := "law.go:21", after := #[⟨9, .data⟩, ⟨11, .chain⟩, ⟨0, .phase⟩, ⟨1, .phase⟩, ⟨2, .phase⟩, ⟨3, .phase⟩, ⟨4, .phase⟩, ⟨5, .phase⟩, ⟨6, .phase⟩, ⟨7, .phase⟩, ⟨8, .phase⟩, ⟨9, .phase⟩, ⟨10, .phase⟩, ⟨11, .phase⟩], guard := none } : Go.Oper)) (v := ?v86) rfl (by kernel_rfl) (by kernel_rfl) (by kernel_rfl) (fun _ _ _ h => h) (Or.inl ⟨by rfl, ?hy86⟩) (by assumption) ?rest86
             case hy86 => (intro w hSw; (try dsimp only at hSw); go_simp; (try with_reducible rfl))
             (try simp only [Act.put, List.getElem_toArray, List.getElem_cons_zero, List.getElem_cons_succ, List.setIfInBounds_toArray, List.set_cons_zero, List.set_cons_succ])
             refine wpAnyH_done (by kernel_rfl) ?_ _
            case' more82 =>
             refine AllReadyH.cons (o := ({ dst := some 3, op := .alloc 24, type := 0, pos := "law.go:21", after := #[], guard := none } : Go.Oper)) rfl (fun K hK => ?_) AllReadyH.nil
             go_simp; (first | refine k_allocD (w0 := W3) ?_ (fun hb => ?_) | refine k_alloc (w0 := W3) ?_ (fun hb => ?_)); exact (by with_reducible (repeat (first | exact Ext.rfl_ _ | assumption | refine Ext.drew ?_ | refine Ext.drewN ?_ _ | refine Ext.alloc ?_ _ | refine Ext.trans ?_ (by assumption)))); (try simp only [World.size_alloc] at hb); have HBO := Lib.hid hb.1; have zo := hb.2; clear hb; (try have ALAST := Lib.hid HC4.out)
             refine hK.out _ _ (by exact HS3.out _ (by with_reducible (repeat (first | assumption | exact .rfl_ _ | refine .drew ?_ | refine .alloc ?_ _ | refine .setCell ?_ (by omega) _ | refine .trans ?_ (by assumption))))) (fun _ => ?_)
             clear hK K
             (try simp only [Act.put, List.getElem_toArray, List.getElem_cons_zero, List.getElem_cons_succ, List.setIfInBounds_toArray, List.set_cons_zero, List.set_cons_succ])
             refine wpAnyH_ready (rs := [6]) (by kernel_rfl) (by simp) ?_
             refine AllReadyH.cons (o := ({ dst := some 35, op := .call { callee := .value (.func 7), args := #[.tmp 29, .tmp 34], argTypes := #[24, 28] }, type := 33, pos := "law.go:21", after := #[⟨0, .data⟩, ⟨5, .data⟩, ⟨3, .chain⟩], guard := none } : Go.Oper)) rfl (fun K hK => ?_) AllReadyH.nil
             go_simp; refine (kdo2_any A2 c2 _ _ _ (HR3.out.ext (by with_reducible (repeat (first | exact Ext.rfl_ _ | assumption | refine Ext.drew ?_ | refine Ext.drewN ?_ _ | refine Ext.alloc ?_ _ | refine Ext.trans ?_ (by assumption))))) HC2.out (rdN1 (blkX HDB.out (by with_reducible (repeat (first | exact Ext.rfl_ _ | assumption | refine Ext.drew ?_ | refine Ext.drewN ?_ _ | refine Ext.alloc ?_ _ | refine Ext.trans ?_ (by assumption))))) ⟨by decide, by decide⟩) (HL2.out.ext (by with_reducible (repeat (first | exact Ext.rfl_ _ | assumption | refine Ext.drew ?_ | refine Ext.drewN ?_ _ | refine Ext.alloc ?_ _ | refine Ext.trans ?_ (by assumption)))))).mono ?_; rintro e wd ⟨b4, A4, c4, rfl, ho4, hc4, hx⟩; have HO4 := Lib.hid ho4; have HC4 := Lib.hid hc4; clear hc4 ho4; (try (have HBO := Lib.hid (blkX HBO.out (show Ext _ wd from (by with_reducible (repeat (first | exact Ext.rfl_ _ | assumption | refine Ext.drew ?_ | refine Ext.drewN ?_ _ | refine Ext.alloc ?_ _ | refine Ext.trans ?_ (by assumption)))))))); (try (go_wp2_with fail))
             refine hK.out _ _ (by exact HS3.out _ (by with_reducible (repeat (first | assumption | exact .rfl_ _ | refine .drew ?_ | refine .alloc ?_ _ | refine .setCell ?_ (by omega) _ | refine .trans ?_ (by assumption))))) (fun _ => ?_)
             clear hK K
             refine wpAnyH_take (i := 7) (oi := ({ dst := some 28, op := .move (.tmp 35), type := 33, pos := "law.go:21", after := #[⟨6, .data⟩], guard := none } : Go.Oper)) (v := ?v87) rfl (by kernel_rfl) (by kernel_rfl) (by kernel_rfl) (fun _ _ _ h => h) (Or.inl ⟨by rfl, ?hy87⟩) (by assumption) ?rest87
             case hy87 => (intro w hSw; (try dsimp only at hSw); go_simp; (try with_reducible rfl))
             refine wpAnyH_take (i := 8) (oi := ({ dst := some 36, op := .extract (.tmp 28) 0, type := 24, pos := "law.go:21", after := #[⟨7, .data⟩], guard := none } : Go.Oper)) (v := ?v88) rfl (by kernel_rfl) (by kernel_rfl) (by kernel_rfl) (fun _ _ _ h => h) (Or.inl ⟨by rfl, ?hy88⟩) (by assumption) ?rest88
             case hy88 => (intro w hSw; (try dsimp only at hSw); go_simp; (try with_reducible rfl))
             refine wpAnyH_take (i := 9) (oi := ({ dst := some 37, op := .extract (.tmp 28) 1, type := 29, pos := "law.go:21", after := #[⟨7, .data⟩, ⟨11, .gcOnly .lateStores⟩], guard := none } : Go.Oper)) (v := ?v89) rfl (by kernel_rfl) (by kernel_rfl) (by kernel_rfl) (fun _ _ _ h => h) (Or.inl ⟨by rfl, ?hy89⟩) (by assumption) ?rest89
             case hy89 => (intro w hSw; (try dsimp only at hSw); go_simp; (try with_reducible rfl))
             (try simp only [Act.put, List.getElem_toArray, List.getElem_cons_zero, List.getElem_cons_succ, List.setIfInBounds_toArray, List.set_cons_zero, List.set_cons_succ])
             refine wpAnyH_ready (rs := [11]) (by kernel_rfl) (by simp) ?_
             refine AllReadyH.cons (o := ({ dst := none, op := .store 24 (.tmp 3) (.tmp 36), type := 0, pos := "law.go:21", after := #[⟨10, .data⟩, ⟨8, .data⟩, ⟨6, .chain⟩, ⟨0, .phase⟩, ⟨1, .phase⟩, ⟨2, .phase⟩, ⟨3, .phase⟩, ⟨4, .phase⟩, ⟨5, .phase⟩, ⟨6, .phase⟩, ⟨7, .phase⟩, ⟨8, .phase⟩, ⟨9, .textOnly .lateStores⟩, ⟨10, .phase⟩], guard := none } : Go.Oper)) rfl (fun K hK => ?_) AllReadyH.nil
             obtain ⟨o0, o1, o2, o3, o4, p0, p1, p2, p3, p4⟩ := box5 HBO.out (Ext.rfl_ _); go_simp
             refine hK.out _ _ (by exact HS3.out _ (by with_reducible (repeat (first | assumption | exact .rfl_ _ | refine .drew ?_ | refine .alloc ?_ _ | refine .setCell ?_ (by omega) _ | refine .trans ?_ (by assumption))))) (fun _ => ?_)
             clear hK K
             refine wpAnyH_take (i := 12) (oi := ({ dst := some 2, op := .assign (.tmp 37), type := 29, pos := "law.go:21", after := #[⟨9, .data⟩, ⟨11, .chain⟩, ⟨0, .phase⟩, ⟨1, .phase⟩, ⟨2, .phase⟩, ⟨3, .phase⟩, ⟨4, .phase⟩, ⟨5, .phase⟩, ⟨6, .phase⟩, ⟨7, .phase⟩, ⟨8, .phase⟩, ⟨9, .phase⟩, ⟨10, .phase⟩, ⟨11, .phase⟩], guard := none } : Go.Oper)) (v := ?v90) rfl (by kernel_rfl) (by kernel_rfl) (by kernel_rfl) (fun _ _ _ h => h) (Or.inl ⟨by rfl, ?hy90⟩) (by assumption) ?rest90
             case hy90 => (intro w hSw; (try dsimp only at hSw); go_simp; (try with_reducible rfl))
             (try simp only [Act.put, List.getElem_toArray, List.getElem_cons_zero, List.getElem_cons_succ, List.setIfInBounds_toArray, List.set_cons_zero, List.set_cons_succ])
             refine wpAnyH_done (by kernel_rfl) ?_ _
           case' more81 =>
            refine AllReadyH.cons (o := ({ dst := some 3, op := .alloc 24, type := 0, pos := "law.go:21", after := #[], guard := none } : Go.Oper)) rfl (fun K hK => ?_) AllReadyH.nil
            go_simp; (first | refine k_allocD (w0 := W3) ?_ (fun hb => ?_) | refine k_alloc (w0 := W3) ?_ (fun hb => ?_)); exact (by with_reducible (repeat (first | exact Ext.rfl_ _ | assumption | refine Ext.drew ?_ | refine Ext.drewN ?_ _ | refine Ext.alloc ?_ _ | refine Ext.trans ?_ (by assumption)))); (try simp only [World.size_alloc] at hb); have HBO := Lib.hid hb.1; have zo := hb.2; clear hb; (try have ALAST := Lib.hid HC4.out)
            refine hK.out _ _ (by exact HS3.out _ (by with_reducible (repeat (first | assumption | exact .rfl_ _ | refine .drew ?_ | refine .alloc ?_ _ | refine .setCell ?_ (by omega) _ | refine .trans ?_ (by assumption))))) (fun _ => ?_)
            clear hK K
            (try simp only [Act.put, List.getElem_toArray, List.getElem_cons_zero, List.getElem_cons_succ, List.setIfInBounds_toArray, List.set_cons_zero, List.set_cons_succ])
            refine wpAnyH_ready (rs := [5]) (by kernel_rfl) (by simp) ?_
            refine AllReadyH.cons (o := ({ dst := some 34, op := .build 28 #[(0, .tmp 30), (1, .tmp 33), (2, .const (.int .i64 4)), (5, .const (.int .i64 3))], type := 28, pos := "law.go:21", after := #[⟨1, .data⟩, ⟨4, .data⟩], guard := none } : Go.Oper)) rfl (fun K hK => ?_) AllReadyH.nil
            go_simp
            refine hK.out _ _ (by exact HS3.out _ (by with_reducible (repeat (first | assumption | exact .rfl_ _ | refine .drew ?_ | refine .alloc ?_ _ | refine .setCell ?_ (by omega) _ | refine .trans ?_ (by assumption))))) (fun _ => ?_)
            clear hK K
            (try simp only [Act.put, List.getElem_toArray, List.getElem_cons_zero, List.getElem_cons_succ, List.setIfInBounds_toArray, List.set_cons_zero, List.set_cons_succ])
            refine wpAnyH_ready (rs := [6]) (by kernel_rfl) (by simp) ?_
            refine AllReadyH.cons (o := ({ dst := some 35, op := .call { callee := .value (.func 7), args := #[.tmp 29, .tmp 34], argTypes := #[24, 28] }, type := 33, pos := "law.go:21", after := #[⟨0, .data⟩, ⟨5, .data⟩, ⟨3, .chain⟩], guard := none } : Go.Oper)) rfl (fun K hK => ?_) AllReadyH.nil
            go_simp; refine (kdo2_any A2 c2 _ _ _ (HR3.out.ext (by with_reducible (repeat (first | exact Ext.rfl_ _ | assumption | refine Ext.drew ?_ | refine Ext.drewN ?_ _ | refine Ext.alloc ?_ _ | refine Ext.trans ?_ (by assumption))))) HC2.out (rdN1 (blkX HDB.out (by with_reducible (repeat (first | exact Ext.rfl_ _ | assumption | refine Ext.drew ?_ | refine Ext.drewN ?_ _ | refine Ext.alloc ?_ _ | refine Ext.trans ?_ (by assumption))))) ⟨by decide, by decide⟩) (HL2.out.ext (by with_reducible (repeat (first | exact Ext.rfl_ _ | assumption | refine Ext.drew ?_ | refine Ext.drewN ?_ _ | refine Ext.alloc ?_ _ | refine Ext.trans ?_ (by assumption)))))).mono ?_; rintro e wd ⟨b4, A4, c4, rfl, ho4, hc4, hx⟩; have HO4 := Lib.hid ho4; have HC4 := Lib.hid hc4; clear hc4 ho4; (try (have HBO := Lib.hid (blkX HBO.out (show Ext _ wd from (by with_reducible (repeat (first | exact Ext.rfl_ _ | assumption | refine Ext.drew ?_ | refine Ext.drewN ?_ _ | refine Ext.alloc ?_ _ | refine Ext.trans ?_ (by assumption)))))))); (try (go_wp2_with fail))
            refine hK.out _ _ (by exact HS3.out _ (by with_reducible (repeat (first | assumption | exact .rfl_ _ | refine .drew ?_ | refine .alloc ?_ _ | refine .setCell ?_ (by omega) _ | refine .trans ?_ (by assumption))))) (fun _ => ?_)
            clear hK K
            refine wpAnyH_take (i := 7) (oi := ({ dst := some 28, op := .move (.tmp 35), type := 33, pos := "law.go:21", after := #[⟨6, .data⟩], guard := none } : Go.Oper)) (v := ?v91) rfl (by kernel_rfl) (by kernel_rfl) (by kernel_rfl) (fun _ _ _ h => h) (Or.inl ⟨by rfl, ?hy91⟩) (by assumption) ?rest91
            case hy91 => (intro w hSw; (try dsimp only at hSw); go_simp; (try with_reducible rfl))
            refine wpAnyH_take (i := 8) (oi := ({ dst := some 36, op := .extract (.tmp 28) 0, type := 24, pos := "law.go:21", after := #[⟨7, .data⟩], guard := none } : Go.Oper)) (v := ?v92) rfl (by kernel_rfl) (by kernel_rfl) (by kernel_rfl) (fun _ _ _ h => h) (Or.inl ⟨by rfl, ?hy92⟩) (by assumption) ?rest92
            case hy92 => (intro w hSw; (try dsimp only at hSw); go_simp; (try with_reducible rfl))
            refine wpAnyH_take (i := 9) (oi := ({ dst := some 37, op := .extract (.tmp 28) 1, type := 29, pos := "law.go:21", after := #[⟨7, .data⟩, ⟨11, .gcOnly .lateStores⟩], guard := none } : Go.Oper)) (v := ?v93) rfl (by kernel_rfl) (by kernel_rfl) (by kernel_rfl) (fun _ _ _ h => h) (Or.inl ⟨by rfl, ?hy93⟩) (by assumption) ?rest93
            case hy93 => (intro w hSw; (try dsimp only at hSw); go_simp; (try with_reducible rfl))
            (try simp only [Act.put, List.getElem_toArray, List.getElem_cons_zero, List.getElem_cons_succ, List.setIfInBounds_toArray, List.set_cons_zero, List.set_cons_succ])
            refine wpAnyH_ready (rs := [11]) (by kernel_rfl) (by simp) ?_
            refine AllReadyH.cons (o := ({ dst := none, op := .store 24 (.tmp 3) (.tmp 36), type := 0, pos := "law.go:21", after := #[⟨10, .data⟩, ⟨8, .data⟩, ⟨6, .chain⟩, ⟨0, .phase⟩, ⟨1, .phase⟩, ⟨2, .phase⟩, ⟨3, .phase⟩, ⟨4, .phase⟩, ⟨5, .phase⟩, ⟨6, .phase⟩, ⟨7, .phase⟩, ⟨8, .phase⟩, ⟨9, .textOnly .lateStores⟩, ⟨10, .phase⟩], guard := none } : Go.Oper)) rfl (fun K hK => ?_) AllReadyH.nil
            obtain ⟨o0, o1, o2, o3, o4, p0, p1, p2, p3, p4⟩ := box5 HBO.out (Ext.rfl_ _); go_simp
            refine hK.out _ _ (by exact HS3.out _ (by with_reducible (repeat (first | assumption | exact .rfl_ _ | refine .drew ?_ | refine .alloc ?_ _ | refine .setCell ?_ (by omega) _ | refine .trans ?_ (by assumption))))) (fun _ => ?_)
            clear hK K
            refine wpAnyH_take (i := 12) (oi := ({ dst := some 2, op := .assign (.tmp 37), type := 29, pos := "law.go:21", after := #[⟨9, .data⟩, ⟨11, .chain⟩, ⟨0, .phase⟩, ⟨1, .phase⟩, ⟨2, .phase⟩, ⟨3, .phase⟩, ⟨4, .phase⟩, ⟨5, .phase⟩, ⟨6, .phase⟩, ⟨7, .phase⟩, ⟨8, .phase⟩, ⟨9, .phase⟩, ⟨10, .phase⟩, ⟨11, .phase⟩], guard := none } : Go.Oper)) (v := ?v94) rfl (by kernel_rfl) (by kernel_rfl) (by kernel_rfl) (fun _ _ _ h => h) (Or.inl ⟨by rfl, ?hy94⟩) (by assumption) ?rest94
            case hy94 => (intro w hSw; (try dsimp only at hSw); go_simp; (try with_reducible rfl))
            (try simp only [Act.put, List.getElem_toArray, List.getElem_cons_zero, List.getElem_cons_succ, List.setIfInBounds_toArray, List.set_cons_zero, List.set_cons_succ])
            refine wpAnyH_done (by kernel_rfl) ?_ _
          case' more80 =>
           refine AllReadyH.cons (o := ({ dst := some 3, op := .alloc 24, type := 0, pos := "law.go:21", after := #[], guard := none } : Go.Oper)) rfl (fun K hK => ?_) AllReadyH.nil
           go_simp; (first | refine k_allocD (w0 := W3) ?_ (fun hb => ?_) | refine k_alloc (w0 := W3) ?_ (fun hb => ?_)); exact (by with_reducible (repeat (first | exact Ext.rfl_ _ | assumption | refine Ext.drew ?_ | refine Ext.drewN ?_ _ | refine Ext.alloc ?_ _ | refine Ext.trans ?_ (by assumption)))); (try simp only [World.size_alloc] at hb); have HBO := Lib.hid hb.1; have zo := hb.2; clear hb; (try have ALAST := Lib.hid HC4.out)
           refine hK.out _ _ (by exact HS3.out _ (by with_reducible (repeat (first | assumption | exact .rfl_ _ | refine .drew ?_ | refine .alloc ?_ _ | refine .setCell ?_ (by omega) _ | refine .trans ?_ (by assumption))))) (fun _ => ?_)
           clear hK K
           (try simp only [Act.put, List.getElem_toArray, List.getElem_cons_zero, List.getElem_cons_succ, List.setIfInBounds_toArray, List.set_cons_zero, List.set_cons_succ])
           refine wpAnyH_ready (rs := [1]) (by kernel_rfl) (by simp) ?_
           refine AllReadyH.cons (o := ({ dst := some 30, op := .buildSlice 26 1 #[(0, .const (.int .i64 1))], type := 26, pos := "law.go:21", after := #[], guard := none } : Go.Oper)) rfl (fun K hK => ?_) AllReadyH.nil
           go_simp; (first | refine k_allocD (w0 := W3) ?_ (fun hb => ?_) | refine k_alloc (w0 := W3) ?_ (fun hb => ?_)); exact (by with_reducible (repeat (first | exact Ext.rfl_ _ | assumption | refine Ext.drew ?_ | refine Ext.drewN ?_ _ | refine Ext.alloc ?_ _ | refine Ext.trans ?_ (by assumption)))); (try simp only [World.size_alloc] at hb); have HDB := Lib.hid hb.1; clear hb
           refine hK.out _ _ (by exact HS3.out _ (by with_reducible (repeat (first | assumption | exact .rfl_ _ | refine .drew ?_ | refine .alloc ?_ _ | refine .setCell ?_ (by omega) _ | refine .trans ?_ (by assumption))))) (fun _ => ?_)
           clear hK K
           (try simp only [Act.put, List.getElem_toArray, List.getElem_cons_zero, List.getElem_cons_succ, List.setIfInBounds_toArray, List.set_cons_zero, List.set_cons_succ])
           refine wpAnyH_ready (rs := [5]) (by kernel_rfl) (by simp) ?_
           refine AllReadyH.cons (o := ({ dst := some 34, op := .build 28 #[(0, .tmp 30), (1, .tmp 33), (2, .const (.int .i64 4)), (5, .const (.int .i64 3))], type := 28, pos := "law.go:21", after := #[⟨1, .data⟩, ⟨4, .data⟩], guard := none } : Go.Oper)) rfl (fun K hK => ?_) AllReadyH.nil
           go_simp
           refine hK.out _ _ (by exact HS3.out _ (by with_reducible (repeat (first | assumption | exact .rfl_ _ | refine .drew ?_ | refine .alloc ?_ _ | refine .setCell ?_ (by omega) _ | refine .trans ?_ (by assumption))))) (fun _ => ?_)
           clear hK K
           (try simp only [Act.put, List.getElem_toArray, List.getElem_cons_zero, List.getElem_cons_succ, List.setIfInBounds_toArray, List.set_cons_zero, List.set_cons_succ])
           refine wpAnyH_ready (rs := [6]) (by kernel_rfl) (by simp) ?_
           refine AllReadyH.cons (o := ({ dst := some 35, op := .call { callee := .value (.func 7), args := #[.tmp 29, .tmp 34], argTypes := #[24, 28] }, type := 33, pos := "law.go:21", after := #[⟨0, .data⟩, ⟨5, .data⟩, ⟨3, .chain⟩], guard := none } : Go.Oper)) rfl (fun K hK => ?_) AllReadyH.nil
           go_simp; refine (kdo2_any A2 c2 _ _ _ (HR3.out.ext (by with_reducible (repeat (first | exact Ext.rfl_ _ | assumption | refine Ext.drew ?_ | refine Ext.drewN ?_ _ | refine Ext.alloc ?_ _ | refine Ext.trans ?_ (by assumption))))) HC2.out (rdN1 (blkX HDB.out (by with_reducible (repeat (first | exact Ext.rfl_ _ | assumption | refine Ext.drew ?_ | refine Ext.drewN ?_ _ | refine Ext.alloc ?_ _ | refine Ext.trans ?_ (by assumption))))) ⟨by decide, by decide⟩) (HL2.out.ext (by with_reducible (repeat (first | exact Ext.rfl_ _ | assumption | refine Ext.drew ?_ | refine Ext.drewN ?_ _ | refine Ext.alloc ?_ _ | refine Ext.trans ?_ (by assumption)))))).mono ?_; rintro e wd ⟨b4, A4, c4, rfl, ho4, hc4, hx⟩; have HO4 := Lib.hid ho4; have HC4 := Lib.hid hc4; clear hc4 ho4; (try (have HBO := Lib.hid (blkX HBO.out (show Ext _ wd from (by with_reducible (repeat (first | exact Ext.rfl_ _ | assumption | refine Ext.drew ?_ | refine Ext.drewN ?_ _ | refine Ext.alloc ?_ _ | refine Ext.trans ?_ (by assumption)))))))); (try (go_wp2_with fail))
           refine hK.out _ _ (by exact HS3.out _ (by with_reducible (repeat (first | assumption | exact .rfl_ _ | refine .drew ?_ | refine .alloc ?_ _ | refine .setCell ?_ (by omega) _ | refine .trans ?_ (by assumption))))) (fun _ => ?_)
           clear hK K
           refine wpAnyH_take (i := 7) (oi := ({ dst := some 28, op := .move (.tmp 35), type := 33, pos := "law.go:21", after := #[⟨6, .data⟩], guard := none } : Go.Oper)) (v := ?v95) rfl (by kernel_rfl) (by kernel_rfl) (by kernel_rfl) (fun _ _ _ h => h) (Or.inl ⟨by rfl, ?hy95⟩) (by assumption) ?rest95
           case hy95 => (intro w hSw; (try dsimp only at hSw); go_simp; (try with_reducible rfl))
           refine wpAnyH_take (i := 8) (oi := ({ dst := some 36, op := .extract (.tmp 28) 0, type := 24, pos := "law.go:21", after := #[⟨7, .data⟩], guard := none } : Go.Oper)) (v := ?v96) rfl (by kernel_rfl) (by kernel_rfl) (by kernel_rfl) (fun _ _ _ h => h) (Or.inl ⟨by rfl, ?hy96⟩) (by assumption) ?rest96
           case hy96 => (intro w hSw; (try dsimp only at hSw); go_simp; (try with_reducible rfl))
           refine wpAnyH_take (i := 9) (oi := ({ dst := some 37, op := .extract (.tmp 28) 1, type := 29, pos := "law.go:21", after := #[⟨7, .data⟩, ⟨11, .gcOnly .lateStores⟩], guard := none } : Go.Oper)) (v := ?v97) rfl (by kernel_rfl) (by kernel_rfl) (by kernel_rfl) (fun _ _ _ h => h) (Or.inl ⟨by rfl, ?hy97⟩) (by assumption) ?rest97
           case hy97 => (intro w hSw; (try dsimp only at hSw); go_simp; (try with_reducible rfl))
           (try simp only [Act.put, List.getElem_toArray, List.getElem_cons_zero, List.getElem_cons_succ, List.setIfInBounds_toArray, List.set_cons_zero, List.set_cons_succ])
           refine wpAnyH_ready (rs := [11]) (by kernel_rfl) (by simp) ?_
           refine AllReadyH.cons (o := ({ dst := none, op := .store 24 (.tmp 3) (.tmp 36), type := 0, pos := "law.go:21", after := #[⟨10, .data⟩, ⟨8, .data⟩, ⟨6, .chain⟩, ⟨0, .phase⟩, ⟨1, .phase⟩, ⟨2, .phase⟩, ⟨3, .phase⟩, ⟨4, .phase⟩, ⟨5, .phase⟩, ⟨6, .phase⟩, ⟨7, .phase⟩, ⟨8, .phase⟩, ⟨9, .textOnly .lateStores⟩, ⟨10, .phase⟩], guard := none } : Go.Oper)) rfl (fun K hK => ?_) AllReadyH.nil
           obtain ⟨o0, o1, o2, o3, o4, p0, p1, p2, p3, p4⟩ := box5 HBO.out (Ext.rfl_ _); go_simp
           refine hK.out _ _ (by exact HS3.out _ (by with_reducible (repeat (first | assumption | exact .rfl_ _ | refine .drew ?_ | refine .alloc ?_ _ | refine .setCell ?_ (by omega) _ | refine .trans ?_ (by assumption))))) (fun _ => ?_)
           clear hK K
           refine wpAnyH_take (i := 12) (oi := ({ dst := some 2, op := .assign (.tmp 37), type := 29, pos := "law.go:21", after := #[⟨9, .data⟩, ⟨11, .chain⟩, ⟨0, .phase⟩, ⟨1, .phase⟩, ⟨2, .phase⟩, ⟨3, .phase⟩, ⟨4, .phase⟩, ⟨5, .phase⟩, ⟨6, .phase⟩, ⟨7, .phase⟩, ⟨8, .phase⟩, ⟨9, .phase⟩, ⟨10, .phase⟩, ⟨11, .phase⟩], guard := none } : Go.Oper)) (v := ?v98) rfl (by kernel_rfl) (by kernel_rfl) (by kernel_rfl) (fun _ _ _ h => h) (Or.inl ⟨by rfl, ?hy98⟩) (by assumption) ?rest98
           case hy98 => (intro w hSw; (try dsimp only at hSw); go_simp; (try with_reducible rfl))
           (try simp only [Act.put, List.getElem_toArray, List.getElem_cons_zero, List.getElem_cons_succ, List.setIfInBounds_toArray, List.set_cons_zero, List.set_cons_succ])
           refine wpAnyH_done (by kernel_rfl) ?_ _
         case' more79 =>
          refine AllReadyH.cons (o := ({ dst := some 3, op := .alloc 24, type := 0, pos := "law.go:21", after := #[], guard := none } : Go.Oper)) rfl (fun K hK => ?_) AllReadyH.nil
          go_simp; (first | refine k_allocD (w0 := W3) ?_ (fun hb => ?_) | refine k_alloc (w0 := W3) ?_ (fun hb => ?_)); exact (by with_reducible (repeat (first | exact Ext.rfl_ _ | assumption | refine Ext.drew ?_ | refine Ext.drewN ?_ _ | refine Ext.alloc ?_ _ | refine Ext.trans ?_ (by assumption)))); (try simp only [World.size_alloc] at hb); have HBO := Lib.hid hb.1; have zo := hb.2; clear hb; (try have ALAST := Lib.hid HC4.out)
          refine hK.out _ _ (by exact HS3.out _ (by with_reducible (repeat (first | assumption | exact .rfl_ _ | refine .drew ?_ | refine .alloc ?_ _ | refine .setCell ?_ (by omega) _ | refine .trans ?_ (by assumption))))) (fun _ => ?_)
          clear hK K
          (try simp only [Act.put, List.getElem_toArray, List.getElem_cons_zero, List.getElem_cons_succ, List.setIfInBounds_toArray, List.set_cons_zero, List.set_cons_succ])
          refine wpAnyH_ready (rs := [1, 4]) (by kernel_rfl) (by simp) ?_
          refine AllReadyH.cons (o := ({ dst := some 30, op := .buildSlice 26 1 #[(0, .const (.int .i64 1))], type := 26, pos := "law.go:21", after := #[], guard := none } : Go.Oper)) rfl (fun K hK => ?one99) ?more99
          case' one99 =>
           go_simp; (first | refine k_allocD (w0 := W3) ?_ (fun hb => ?_) | refine k_alloc (w0 := W3) ?_ (fun hb => ?_)); exact (by with_reducible (repeat (first | exact Ext.rfl_ _ | assumption | refine Ext.drew ?_ | refine Ext.drewN ?_ _ | refine Ext.alloc ?_ _ | refine Ext.trans ?_ (by assumption)))); (try simp only [World.size_alloc] at hb); have HDB := Lib.hid hb.1; clear hb
           refine hK.out _ _ (by exact HS3.out _ (by with_reducible (repeat (first | assumption | exact .rfl_ _ | refine .drew ?_ | refine .alloc ?_ _ | refine .setCell ?_ (by omega) _ | refine .trans ?_ (by assumption))))) (fun _ => ?_)
           clear hK K
           (try simp only [Act.put, List.getElem_toArray, List.getElem_cons_zero, List.getElem_cons_succ, List.setIfInBounds_toArray, List.set_cons_zero, List.set_cons_succ])
           refine wpAnyH_ready (rs := [4]) (by kernel_rfl) (by simp) ?_
           refine AllReadyH.cons (o := ({ dst := some 33, op := .buildSlice 22 2 #[(0, .tmp 31), (1, .tmp 32)], type := 22, pos := "law.go:21", after := #[⟨2, .data⟩, ⟨3, .data⟩], guard := none } : Go.Oper)) rfl (fun K hK => ?_) AllReadyH.nil
           go_simp; (first | refine k_allocD (w0 := W3) ?_ (fun hb => ?_) | refine k_alloc (w0 := W3) ?_ (fun hb => ?_)); exact (by with_reducible (repeat (first | exact Ext.rfl_ _ | assumption | refine Ext.drew ?_ | refine Ext.drewN ?_ _ | refine Ext.alloc ?_ _ | refine Ext.trans ?_ (by assumption)))); (try simp only [World.size_alloc] at hb); have HL2 := Lib.hid (rdT2 (t := kt3) (t' := kt2) hb.1 rfl rfl rfl rfl rfl rfl (HT3.out.ext (by with_reducible (repeat (first | exact Ext.rfl_ _ | assumption | refine Ext.drew ?_ | refine Ext.drewN ?_ _ | refine Ext.alloc ?_ _ | refine Ext.trans ?_ (by assumption))))) (HT2.out.ext (by with_reducible (repeat (first | exact Ext.rfl_ _ | assumption | refine Ext.drew ?_ | refine Ext.drewN ?_ _ | refine Ext.alloc ?_ _ | refine Ext.trans ?_ (by assumption)))))); clear hb
           refine hK.out _ _ (by exact HS3.out _ (by with_reducible (repeat (first | assumption | exact .rfl_ _ | refine .drew ?_ | refine .alloc ?_ _ | refine .setCell ?_ (by omega) _ | refine .trans ?_ (by assumption))))) (fun _ => ?_)
           clear hK K
           (try simp only [Act.put, List.getElem_toArray, List.getElem_cons_zero, List.getElem_cons_succ, List.setIfInBounds_toArray, List.set_cons_zero, List.set_cons_succ])
           refine wpAnyH_ready (rs := [5]) (by kernel_rfl) (by simp) ?_
           refine AllReadyH.cons (o := ({ dst := some 34, op := .build 28 #[(0, .tmp 30), (1, .tmp 33), (2, .const (.int .i64 4)), (5, .const (.int .i64 3))], type := 28, pos := "law.go:21", after := #[⟨1, .data⟩, ⟨4, .data⟩], guard := none } : Go.Oper)) rfl (fun K hK => ?_) AllReadyH.nil
           go_simp
           refine hK.out _ _ (by exact HS3.out _ (by with_reducible (repeat (first | assumption | exact .rfl_ _ | refine .drew ?_ | refine .alloc ?_ _ | refine .setCell ?_ (by omega) _ | refine .trans ?_ (by assumption))))) (fun _ => ?_)
           clear hK K
           (try simp only [Act.put, List.getElem_toArray, List.getElem_cons_zero, List.getElem_cons_succ, List.setIfInBounds_toArray, List.set_cons_zero, List.set_cons_succ])
           refine wpAnyH_ready (rs := [6]) (by kernel_rfl) (by simp) ?_
           refine AllReadyH.cons (o := ({ dst := some 35, op := .call { callee := .value (.func 7), args := #[.tmp 29, .tmp 34], argTypes := #[24, 28] }, type := 33, pos := "law.go:21", after := #[⟨0, .data⟩, ⟨5, .data⟩, ⟨3, .chain⟩], guard := none } : Go.Oper)) rfl (fun K hK => ?_) AllReadyH.nil
           go_simp; refine (kdo2_any A2 c2 _ _ _ (HR3.out.ext (by with_reducible (repeat (first | exact Ext.rfl_ _ | assumption | refine Ext.drew ?_ | refine Ext.drewN ?_ _ | refine Ext.alloc ?_ _ | refine Ext.trans ?_ (by assumption))))) HC2.out (rdN1 (blkX HDB.out (by with_reducible (repeat (first | exact Ext.rfl_ _ | assumption | refine Ext.drew ?_ | refine Ext.drewN ?_ _ | refine Ext.alloc ?_ _ | refine Ext.trans ?_ (by assumption))))) ⟨by decide, by decide⟩) (HL2.out.ext (by with_reducible (repeat (first | exact Ext.rfl_ _ | assumption | refine Ext.drew ?_ | refine Ext.drewN ?_ _ | refine Ext.alloc ?_ _ | refine Ext.trans ?_ (by assumption)))))).mono ?_; rintro e wd ⟨b4, A4, c4, rfl, ho4, hc4, hx⟩; have HO4 := Lib.hid ho4; have HC4 := Lib.hid hc4; clear hc4 ho4; (try (have HBO := Lib.hid (blkX HBO.out (show Ext _ wd from (by with_reducible (repeat (first | exact Ext.rfl_ _ | assumption | refine Ext.drew ?_ | refine Ext.drewN ?_ _ | refine Ext.alloc ?_ _ | refine Ext.trans ?_ (by assumption)))))))); (try (go_wp2_with fail))
           refine hK.out _ _ (by exact HS3.out _ (by with_reducible (repeat (first | assumption | exact .rfl_ _ | refine .drew ?_ | refine .alloc ?_ _ | refine .setCell ?_ (by omega) _ | refine .trans ?_ (by assumption))))) (fun _ => ?_)
           clear hK K
           refine wpAnyH_take (i := 7) (oi := ({ dst := some 28, op := .move (.tmp 35), type := 33, pos := "law.go:21", after := #[⟨6, .data⟩], guard := none } : Go.Oper)) (v := ?v100) rfl (by kernel_rfl) (by kernel_rfl) (by kernel_rfl) (fun _ _ _ h => h) (Or.inl ⟨by rfl, ?hy100⟩) (by assumption) ?rest100
           case hy100 => (intro w hSw; (try dsimp only at hSw); go_simp; (try with_reducible rfl))
           refine wpAnyH_take (i := 8) (oi := ({ dst := some 36, op := .extract (.tmp 28) 0, type := 24, pos := "law.go:21", after := #[⟨7, .data⟩], guard := none } : Go.Oper)) (v := ?v101) rfl (by kernel_rfl) (by kernel_rfl) (by kernel_rfl) (fun _ _ _ h => h) (Or.inl ⟨by rfl, ?hy101⟩) (by assumption) ?rest101
           case hy101 => (intro w hSw; (try dsimp only at hSw); go_simp; (try with_reducible rfl))
           refine wpAnyH_take (i := 9) (oi := ({ dst := some 37, op := .extract (.tmp 28) 1, type := 29, pos := "law.go:21", after := #[⟨7, .data⟩, ⟨11, .gcOnly .lateStores⟩], guard := none } : Go.Oper)) (v := ?v102) rfl (by kernel_rfl) (by kernel_rfl) (by kernel_rfl) (fun _ _ _ h => h) (Or.inl ⟨by rfl, ?hy102⟩) (by assumption) ?rest102
           case hy102 => (intro w hSw; (try dsimp only at hSw); go_simp; (try with_reducible rfl))
           (try simp only [Act.put, List.getElem_toArray, List.getElem_cons_zero, List.getElem_cons_succ, List.setIfInBounds_toArray, List.set_cons_zero, List.set_cons_succ])
           refine wpAnyH_ready (rs := [11]) (by kernel_rfl) (by simp) ?_
           refine AllReadyH.cons (o := ({ dst := none, op := .store 24 (.tmp 3) (.tmp 36), type := 0, pos := "law.go:21", after := #[⟨10, .data⟩, ⟨8, .data⟩, ⟨6, .chain⟩, ⟨0, .phase⟩, ⟨1, .phase⟩, ⟨2, .phase⟩, ⟨3, .phase⟩, ⟨4, .phase⟩, ⟨5, .phase⟩, ⟨6, .phase⟩, ⟨7, .phase⟩, ⟨8, .phase⟩, ⟨9, .textOnly .lateStores⟩, ⟨10, .phase⟩], guard := none } : Go.Oper)) rfl (fun K hK => ?_) AllReadyH.nil
           obtain ⟨o0, o1, o2, o3, o4, p0, p1, p2, p3, p4⟩ := box5 HBO.out (Ext.rfl_ _); go_simp
           refine hK.out _ _ (by exact HS3.out _ (by with_reducible (repeat (first | assumption | exact .rfl_ _ | refine .drew ?_ | refine .alloc ?_ _ | refine .setCell ?_ (by omega) _ | refine .trans ?_ (by assumption))))) (fun _ => ?_)
           clear hK K
           refine wpAnyH_take (i := 12) (oi := ({ dst := some 2, op := .assign (.tmp 37), type := 29, pos := "law.go:21", after := #[⟨9, .data⟩, ⟨11, .chain⟩, ⟨0, .phase⟩, ⟨1, .phase⟩, ⟨2, .phase⟩, ⟨3, .phase⟩, ⟨4, .phase⟩, ⟨5, .phase⟩, ⟨6, .phase⟩, ⟨7, .phase⟩, ⟨8, .phase⟩, ⟨9, .phase⟩, ⟨10, .phase⟩, ⟨11, .phase⟩], guard := none } : Go.Oper)) (v := ?v103) rfl (by kernel_rfl) (by kernel_rfl) (by kernel_rfl) (fun _ _ _ h => h) (Or.inl ⟨by rfl, ?hy103⟩) (by assumption) ?rest103
           case hy103 => (intro w hSw; (try dsimp only at hSw); go_simp; (try with_reducible rfl))
           (try simp only [Act.put, List.getElem_toArray, List.getElem_cons_zero, List.getElem_cons_succ, List.setIfInBounds_toArray, List.set_cons_zero, List.set_cons_succ])
           refine wpAnyH_done (by kernel_rfl) ?_ _
          case' more99 =>
           refine AllReadyH.cons (o := ({ dst := some 33, op := .buildSlice 22 2 #[(0, .tmp 31), (1, .tmp 32)], type := 22, pos := "law.go:21", after := #[⟨2, .data⟩, ⟨3, .data⟩], guard := none } : Go.Oper)) rfl (fun K hK => ?_) AllReadyH.nil
           go_simp; (first | refine k_allocD (w0 := W3) ?_ (fun hb => ?_) | refine k_alloc (w0 := W3) ?_ (fun hb => ?_)); exact (by with_reducible (repeat (first | exact Ext.rfl_ _ | assumption | refine Ext.drew ?_ | refine Ext.drewN ?_ _ | refine Ext.alloc ?_ _ | refine Ext.trans ?_ (by assumption)))); (try simp only [World.size_alloc] at hb); have HL2 := Lib.hid (rdT2 (t := kt3) (t' := kt2) hb.1 rfl rfl rfl rfl rfl rfl (HT3.out.ext (by with_reducible (repeat (first | exact Ext.rfl_ _ | assumption | refine Ext.drew ?_ | refine Ext.drewN ?_ _ | refine Ext.alloc ?_ _ | refine Ext.trans ?_ (by assumption))))) (HT2.out.ext (by with_reducible (repeat (first | exact Ext.rfl_ _ | assumption | refine Ext.drew ?_ | refine Ext.drewN ?_ _ | refine Ext.alloc ?_ _ | refine Ext.trans ?_ (by assumption)))))); clear hb
           refine hK.out _ _ (by exact HS3.out _ (by with_reducible (repeat (first | assumption | exact .rfl_ _ | refine .drew ?_ | refine .alloc ?_ _ | refine .setCell ?_ (by omega) _ | refine .trans ?_ (by assumption))))) (fun _ => ?_)
           clear hK K
           (try simp only [Act.put, List.getElem_toArray, List.getElem_cons_zero, List.getElem_cons_succ, List.setIfInBounds_toArray, List.set_cons_zero, List.set_cons_succ])
           refine wpAnyH_ready (rs := [1]) (by kernel_rfl) (by simp) ?_
           refine AllReadyH.cons (o := ({ dst := some 30, op := .buildSlice 26 1 #[(0, .const (.int .i64 1))], type := 26, pos := "law.go:21", after := #[], guard := none } : Go.Oper)) rfl (fun K hK => ?_) AllReadyH.nil
           go_simp; (first | refine k_allocD (w0 := W3) ?_ (fun hb => ?_) | refine k_alloc (w0 := W3) ?_ (fun hb => ?_)); exact (by with_reducible (repeat (first | exact Ext.rfl_ _ | assumption | refine Ext.drew ?_ | refine Ext.drewN ?_ _ | refine Ext.alloc ?_ _ | refine Ext.trans ?_ (by assumption)))); (try simp only [World.size_alloc] at hb); have HDB := Lib.hid hb.1; clear hb
           refine hK.out _ _ (by exact HS3.out _ (by with_reducible (repeat (first | assumption | exact .rfl_ _ | refine .drew ?_ | refine .alloc ?_ _ | refine .setCell ?_ (by omega) _ | refine .trans ?_ (by assumption))))) (fun _ => ?_)
           clear hK K
           (try simp only [Act.put, List.getElem_toArray, List.getElem_cons_zero, List.getElem_cons_succ, List.setIfInBounds_toArray, List.set_cons_zero, List.set_cons_succ])
           refine wpAnyH_ready (rs := [5]) (by kernel_rfl) (by simp) ?_
           refine AllReadyH.cons (o := ({ dst := some 34, op := .build 28 #[(0, .tmp 30), (1, .tmp 33), (2, .const (.int .i64 4)), (5, .const (.int .i64 3))], type := 28, pos := "law.go:21", after := #[⟨1, .data⟩, ⟨4, .data⟩], guard := none } : Go.Oper)) rfl (fun K hK => ?_) AllReadyH.nil
           go_simp
           refine hK.out _ _ (by exact HS3.out _ (by with_reducible (repeat (first | assumption | exact .rfl_ _ | refine .drew ?_ | refine .alloc ?_ _ | refine .setCell ?_ (by omega) _ | refine .trans ?_ (by assumption))))) (fun _ => ?_)
           clear hK K
           (try simp only [Act.put, List.getElem_toArray, List.getElem_cons_zero, List.getElem_cons_succ, List.setIfInBounds_toArray, List.set_cons_zero, List.set_cons_succ])
           refine wpAnyH_ready (rs := [6]) (by kernel_rfl) (by simp) ?_
           refine AllReadyH.cons (o := ({ dst := some 35, op := .call { callee := .value (.func 7), args := #[.tmp 29, .tmp 34], argTypes := #[24, 28] }, type := 33, pos := "law.go:21", after := #[⟨0, .data⟩, ⟨5, .data⟩, ⟨3, .chain⟩], guard := none } : Go.Oper)) rfl (fun K hK => ?_) AllReadyH.nil
           go_simp; refine (kdo2_any A2 c2 _ _ _ (HR3.out.ext (by with_reducible (repeat (first | exact Ext.rfl_ _ | assumption | refine Ext.drew ?_ | refine Ext.drewN ?_ _ | refine Ext.alloc ?_ _ | refine Ext.trans ?_ (by assumption))))) HC2.out (rdN1 (blkX HDB.out (by with_reducible (repeat (first | exact Ext.rfl_ _ | assumption | refine Ext.drew ?_ | refine Ext.drewN ?_ _ | refine Ext.alloc ?_ _ | refine Ext.trans ?_ (by assumption))))) ⟨by decide, by decide⟩) (HL2.out.ext (by with_reducible (repeat (first | exact Ext.rfl_ _ | assumption | refine Ext.drew ?_ | refine Ext.drewN ?_ _ | refine Ext.alloc ?_ _ | refine Ext.trans ?_ (by assumption)))))).mono ?_; rintro e wd ⟨b4, A4, c4, rfl, ho4, hc4, hx⟩; have HO4 := Lib.hid ho4; have HC4 := Lib.hid hc4; clear hc4 ho4; (try (have HBO := Lib.hid (blkX HBO.out (show Ext _ wd from (by with_reducible (repeat (first | exact Ext.rfl_ _ | assumption | refine Ext.drew ?_ | refine Ext.drewN ?_ _ | refine Ext.alloc ?_ _ | refine Ext.trans ?_ (by assumption)))))))); (try (go_wp2_with fail))
           refine hK.out _ _ (by exact HS3.out _ (by with_reducible (repeat (first | assumption | exact .rfl_ _ | refine .drew ?_ | refine .alloc ?_ _ | refine .setCell ?_ (by omega) _ | refine .trans ?_ (by assumption))))) (fun _ => ?_)
           clear hK K
           refine wpAnyH_take (i := 7) (oi := ({ dst := some 28, op := .move (.tmp 35), type := 33, pos := "law.go:21", after := #[⟨6, .data⟩], guard := none } : Go.Oper)) (v := ?v104) rfl (by kernel_rfl) (by kernel_rfl) (by kernel_rfl) (fun _ _ _ h => h) (Or.inl ⟨by rfl, ?hy104⟩) (by assumption) ?rest104
           case hy104 => (intro w hSw; (try dsimp only at hSw); go_simp; (try with_reducible rfl))
           refine wpAnyH_take (i := 8) (oi := ({ dst := some 36, op := .extract (.tmp 28) 0, type := 24, pos := "law.go:21", after := #[⟨7, .data⟩], guard := none } : Go.Oper)) (v := ?v105) rfl (by kernel_rfl) (by kernel_rfl) (by kernel_rfl) (fun _ _ _ h => h) (Or.inl ⟨by rfl, ?hy105⟩) (by assumption) ?rest105
           case hy105 => (intro w hSw; (try dsimp only at hSw); go_simp; (try with_reducible rfl))
           refine wpAnyH_take (i := 9) (oi := ({ dst := some 37, op := .extract (.tmp 28) 1, type := 29, pos := "law.go:21", after := #[⟨7, .data⟩, ⟨11, .gcOnly .lateStores⟩], guard := none } : Go.Oper)) (v := ?v106) rfl (by kernel_rfl) (by kernel_rfl) (by kernel_rfl) (fun _ _ _ h => h) (Or.inl ⟨by rfl, ?hy106⟩) (by assumption) ?rest106
           case hy106 => (intro w hSw; (try dsimp only at hSw); go_simp; (try with_reducible rfl))
           (try simp only [Act.put, List.getElem_toArray, List.getElem_cons_zero, List.getElem_cons_succ, List.setIfInBounds_toArray, List.set_cons_zero, List.set_cons_succ])
           refine wpAnyH_ready (rs := [11]) (by kernel_rfl) (by simp) ?_
           refine AllReadyH.cons (o := ({ dst := none, op := .store 24 (.tmp 3) (.tmp 36), type := 0, pos := "law.go:21", after := #[⟨10, .data⟩, ⟨8, .data⟩, ⟨6, .chain⟩, ⟨0, .phase⟩, ⟨1, .phase⟩, ⟨2, .phase⟩, ⟨3, .phase⟩, ⟨4, .phase⟩, ⟨5, .phase⟩, ⟨6, .phase⟩, ⟨7, .phase⟩, ⟨8, .phase⟩, ⟨9, .textOnly .lateStores⟩, ⟨10, .phase⟩], guard := none } : Go.Oper)) rfl (fun K hK => ?_) AllReadyH.nil
           obtain ⟨o0, o1, o2, o3, o4, p0, p1, p2, p3, p4⟩ := box5 HBO.out (Ext.rfl_ _); go_simp
           refine hK.out _ _ (by exact HS3.out _ (by with_reducible (repeat (first | assumption | exact .rfl_ _ | refine .drew ?_ | refine .alloc ?_ _ | refine .setCell ?_ (by omega) _ | refine .trans ?_ (by assumption))))) (fun _ => ?_)
           clear hK K
           refine wpAnyH_take (i := 12) (oi := ({ dst := some 2, op := .assign (.tmp 37), type := 29, pos := "law.go:21", after := #[⟨9, .data⟩, ⟨11, .chain⟩, ⟨0, .phase⟩, ⟨1, .phase⟩, ⟨2, .phase⟩, ⟨3, .phase⟩, ⟨4, .phase⟩, ⟨5, .phase⟩, ⟨6, .phase⟩, ⟨7, .phase⟩, ⟨8, .phase⟩, ⟨9, .phase⟩, ⟨10, .phase⟩, ⟨11, .phase⟩], guard := none } : Go.Oper)) (v := ?v107) rfl (by kernel_rfl) (by kernel_rfl) (by kernel_rfl) (fun _ _ _ h => h) (Or.inl ⟨by rfl, ?hy107⟩) (by assumption) ?rest107
           case hy107 => (intro w hSw; (try dsimp only at hSw); go_simp; (try with_reducible rfl))
           (try simp only [Act.put, List.getElem_toArray, List.getElem_cons_zero, List.getElem_cons_succ, List.setIfInBounds_toArray, List.set_cons_zero, List.set_cons_succ])
           refine wpAnyH_done (by kernel_rfl) ?_ _
       case' more58 =>
        refine AllReadyH.cons (o := ({ dst := some 3, op := .alloc 24, type := 0, pos := "law.go:21", after := #[], guard := none } : Go.Oper)) rfl (fun K hK => ?_) AllReadyH.nil
        go_simp; (first | refine k_allocD (w0 := W3) ?_ (fun hb => ?_) | refine k_alloc (w0 := W3) ?_ (fun hb => ?_)); exact (by with_reducible (repeat (first | exact Ext.rfl_ _ | assumption | refine Ext.drew ?_ | refine Ext.drewN ?_ _ | refine Ext.alloc ?_ _ | refine Ext.trans ?_ (by assumption)))); (try simp only [World.size_alloc] at hb); have HBO := Lib.hid hb.1; have zo := hb.2; clear hb; (try have ALAST := Lib.hid HC4.out)
        refine hK.out _ _ (by exact HS3.out _ (by with_reducible (repeat (first | assumption | exact .rfl_ _ | refine .drew ?_ | refine .alloc ?_ _ | refine .setCell ?_ (by omega) _ | refine .trans ?_ (by assumption))))) (fun _ => ?_)
        clear hK K
        (try simp only [Act.put, List.getElem_toArray, List.getElem_cons_zero, List.getElem_cons_succ, List.setIfInBounds_toArray, List.set_cons_zero, List.set_cons_succ])
        refine wpAnyH_ready (rs := [1, 3]) (by kernel_rfl) (by simp) ?_
        refine AllReadyH.cons (o := ({ dst := some 30, op := .buildSlice 26 1 #[(0, .const (.int .i64 1))], type := 26, pos := "law.go:21", after := #[], guard := none } : Go.Oper)) rfl (fun K hK => ?one108) ?more108
        case' one108 =>
         go_simp; (first | refine k_allocD (w0 := W3) ?_ (fun hb => ?_) | refine k_alloc (w0 := W3) ?_ (fun hb => ?_)); exact (by with_reducible (repeat (first | exact Ext.rfl_ _ | assumption | refine Ext.drew ?_ | refine Ext.drewN ?_ _ | refine Ext.alloc ?_ _ | refine Ext.trans ?_ (by assumption)))); (try simp only [World.size_alloc] at hb); have HDB := Lib.hid hb.1; clear hb
         refine hK.out _ _ (by exact HS3.out _ (by with_reducible (repeat (first | assumption | exact .rfl_ _ | refine .drew ?_ | refine .alloc ?_ _ | refine .setCell ?_ (by omega) _ | refine .trans ?_ (by assumption))))) (fun _ => ?_)
         clear hK K
         (try simp only [Act.put, List.getElem_toArray, List.getElem_cons_zero, List.getElem_cons_succ, List.setIfInBounds_toArray, List.set_cons_zero, List.set_cons_succ])
         refine wpAnyH_ready (rs := [3]) (by kernel_rfl) (by simp) ?_
         refine AllReadyH.cons (o := ({ dst := some 32, op := .call { callee := .value (.func 11), args := #[.const (.int .i64 2), .const (.int .i64 1), .const (.int .u8 97), .const (.int .u8 98)], argTypes := #[2, 3, 5, 5] }, type := 42, pos := "law.go:21", after := #[⟨2, .chain⟩], guard := none } : Go.Oper)) rfl (fun K hK => ?_) AllReadyH.nil
         go_simp; refine (ltab_any 2 1 97 98 _ ⟨by decide, by decide⟩ ⟨by decide, by decide⟩).mono ?_; rintro e wt2 ⟨At2, ct2, Bt2, dt2, rfl, hrt2, hwt2⟩; have HT2 := Lib.hid (show RdT wt2 _ kt2 from hrt2); clear hrt2; (try (have HBO := Lib.hid (blkX HBO.out (show Ext _ wt2 from (by with_reducible (repeat (first | exact Ext.rfl_ _ | assumption | refine Ext.drew ?_ | refine Ext.drewN ?_ _ | refine Ext.alloc ?_ _ | refine Ext.trans ?_ (by assumption)))))))); (try (go_wp2_with fail))
         refine hK.out _ _ (by exact HS3.out _ (by with_reducible (repeat (first | assumption | exact .rfl_ _ | refine .drew ?_ | refine .alloc ?_ _ | refine .setCell ?_ (by omega) _ | refine .trans ?_ (by assumption))))) (fun _ => ?_)
         clear hK K
         (try simp only [Act.put, List.getElem_toArray, List.getElem_cons_zero, List.getElem_cons_succ, List.setIfInBounds_toArray, List.set_cons_zero, List.set_cons_succ])
         refine wpAnyH_ready (rs := [4]) (by kernel_rfl) (by simp) ?_
         refine AllReadyH.cons (o := ({ dst := some 33, op := .buildSlice 22 2 #[(0, .tmp 31), (1, .tmp 32)], type := 22, pos := "law.go:21", after := #[⟨2, .data⟩, ⟨3, .data⟩], guard := none } : Go.Oper)) rfl (fun K hK => ?_) AllReadyH.nil
         go_simp; (first | refine k_allocD (w0 := W3) ?_ (fun hb => ?_) | refine k_alloc (w0 := W3) ?_ (fun hb => ?_)); exact (by with_reducible (repeat (first | exact Ext.rfl_ _ | assumption | refine Ext.drew ?_ | refine Ext.drewN ?_ _ | refine Ext.alloc ?_ _ | refine Ext.trans ?_ (by assumption)))); (try simp only [World.size_alloc] at hb); have HL2 := Lib.hid (rdT2 (t := kt3) (t' := kt2) hb.1 rfl rfl rfl rfl rfl rfl (HT3.out.ext (by with_reducible (repeat (first | exact Ext.rfl_ _ | assumption | refine Ext.drew ?_ | refine Ext.drewN ?_ _ | refine Ext.alloc ?_ _ | refine Ext.trans ?_ (by assumption))))) (HT2.out.ext (by with_reducible (repeat (first | exact Ext.rfl_ _ | assumption | refine Ext.drew ?_ | refine Ext.drewN ?_ _ | refine Ext.alloc ?_ _ | refine Ext.trans ?_ (by assumption)))))); clear hb
         refine hK.out _ _ (by exact HS3.out _ (by with_reducible (repeat (first | assumption | exact .rfl_ _ | refine .drew ?_ | refine .alloc ?_ _ | refine .setCell ?_ (by omega) _ | refine .trans ?_ (by assumption))))) (fun _ => ?_)
         clear hK K
         (try simp only [Act.put, List.getElem_toArray, List.getElem_cons_zero, List.getElem_cons_succ, List.setIfInBounds_toArray, List.set_cons_zero, List.set_cons_succ])
         refine wpAnyH_ready (rs := [5]) (by kernel_rfl) (by simp) ?_
         refine AllReadyH.cons (o := ({ dst := some 34, op := .build 28 #[(0, .tmp 30), (1, .tmp 33), (2, .const (.int .i64 4)), (5, .const (.int .i64 3))], type := 28, pos := "law.go:21", after := #[⟨1, .data⟩, ⟨4, .data⟩], guard := none } : Go.Oper)) rfl (fun K hK => ?_) AllReadyH.nil
         go_simp
         refine hK.out _ _ (by exact HS3.out _ (by with_reducible (repeat (first | assumption | exact .rfl_ _ | refine .drew ?_ | refine .alloc ?_ _ | refine .setCell ?_ (by omega) _ | refine .trans ?_ (by assumption))))) (fun _ => ?_)
         clear hK K
         (try simp only [Act.put, List.getElem_toArray, List.getElem_cons_zero, List.getElem_cons_succ, List.setIfInBounds_toArray, List.set_cons_zero, List.set_cons_succ])
         refine wpAnyH_ready (rs := [6]) (by kernel_rfl) (by simp) ?_
         refine AllReadyH.cons (o := ({ dst := some 35, op := .call { callee := .value (.func 7), args := #[.tmp 29, .tmp 34], argTypes := #[24, 28] }, type := 33, pos := "law.go:21", after := #[⟨0, .data⟩, ⟨5, .data⟩, ⟨3, .chain⟩], guard := none } : Go.Oper)) rfl (fun K hK => ?_) AllReadyH.nil
         go_simp; refine (kdo2_any A2 c2 _ _ _ (HR3.out.ext (by with_reducible (repeat (first | exact Ext.rfl_ _ | assumption | refine Ext.drew ?_ | refine Ext.drewN ?_ _ | refine Ext.alloc ?_ _ | refine Ext.trans ?_ (by assumption))))) HC2.out (rdN1 (blkX HDB.out (by with_reducible (repeat (first | exact Ext.rfl_ _ | assumption | refine Ext.drew ?_ | refine Ext.drewN ?_ _ | refine Ext.alloc ?_ _ | refine Ext.trans ?_ (by assumption))))) ⟨by decide, by decide⟩) (HL2.out.ext (by with_reducible (repeat (first | exact Ext.rfl_ _ | assumption | refine Ext.drew ?_ | refine Ext.drewN ?_ _ | refine Ext.alloc ?_ _ | refine Ext.trans ?_ (by assumption)))))).mono ?_; rintro e wd ⟨b4, A4, c4, rfl, ho4, hc4, hx⟩; have HO4 := Lib.hid ho4; have HC4 := Lib.hid hc4; clear hc4 ho4; (try (have HBO := Lib.hid (blkX HBO.out (show Ext _ wd from (by with_reducible (repeat (first | exact Ext.rfl_ _ | assumption | refine Ext.drew ?_ | refine Ext.drewN ?_ _ | refine Ext.alloc ?_ _ | refine Ext.trans ?_ (by assumption)))))))); (try (go_wp2_with fail))
         refine hK.out _ _ (by exact HS3.out _ (by with_reducible (repeat (first | assumption | exact .rfl_ _ | refine .drew ?_ | refine .alloc ?_ _ | refine .setCell ?_ (by omega) _ | refine .trans ?_ (by assumption))))) (fun _ => ?_)
         clear hK K
         refine wpAnyH_take (i := 7) (oi := ({ dst := some 28, op := .move (.tmp 35), type := 33, pos := "law.go:21", after := #[⟨6, .data⟩], guard := none } : Go.Oper)) (v := ?v109) rfl (by kernel_rfl) (by kernel_rfl) (by kernel_rfl) (fun _ _ _ h => h) (Or.inl ⟨by rfl, ?hy109⟩) (by assumption) ?rest109
         case hy109 => (intro w hSw; (try dsimp only at hSw); go_simp; (try with_reducible rfl))
         refine wpAnyH_take (i := 8) (oi := ({ dst := some 36, op := .extract (.tmp 28) 0, type := 24, pos := "law.go:21", after := #[⟨7, .data⟩], guard := none } : Go.Oper)) (v := ?v110) rfl (by kernel_rfl) (by kernel_rfl) (by kernel_rfl) (fun _ _ _ h => h) (Or.inl ⟨by rfl, ?hy110⟩) (by assumption) ?rest110
         case hy110 => (intro w hSw; (try dsimp only at hSw); go_simp; (try with_reducible rfl))
         refine wpAnyH_take (i := 9) (oi := ({ dst := some 37, op := .extract (.tmp 28) 1, type := 29, pos := "law.go:21", after := #[⟨7, .data⟩, ⟨11, .gcOnly .lateStores⟩], guard := none } : Go.Oper)) (v := ?v111) rfl (by kernel_rfl) (by kernel_rfl) (by kernel_rfl) (fun _ _ _ h => h) (Or.inl ⟨by rfl, ?hy111⟩) (by assumption) ?rest111
         case hy111 => (intro w hSw; (try dsimp only at hSw); go_simp; (try with_reducible rfl))
         (try simp only [Act.put, List.getElem_toArray, List.getElem_cons_zero, List.getElem_cons_succ, List.setIfInBounds_toArray, List.set_cons_zero, List.set_cons_succ])
         refine wpAnyH_ready (rs := [11]) (by kernel_rfl) (by simp) ?_
         refine AllReadyH.cons (o := ({ dst := none, op := .store 24 (.tmp 3) (.tmp 36), type := 0, pos := "law.go:21", after := #[⟨10, .data⟩, ⟨8, .data⟩, ⟨6, .chain⟩, ⟨0, .phase⟩, ⟨1, .phase⟩, ⟨2, .phase⟩, ⟨3, .phase⟩, ⟨4, .phase⟩, ⟨5, .phase⟩, ⟨6, .phase⟩, ⟨7, .phase⟩, ⟨8, .phase⟩, ⟨9, .textOnly .lateStores⟩, ⟨10, .phase⟩], guard := none } : Go.Oper)) rfl (fun K hK => ?_) AllReadyH.nil
         obtain ⟨o0, o1, o2, o3, o4, p0, p1, p2, p3, p4⟩ := box5 HBO.out (Ext.rfl_ _); go_simp
         refine hK.out _ _ (by exact HS3.out _ (by with_reducible (repeat (first | assumption | exact .rfl_ _ | refine .drew ?_ | refine .alloc ?_ _ | refine .setCell ?_ (by omega) _ | refine .trans ?_ (by assumption))))) (fun _ => ?_)
         clear hK K
         refine wpAnyH_take (i := 12) (oi := ({ dst := some 2, op := .assign (.tmp 37), type := 29, pos := "law.go:21", after := #[⟨9, .data⟩, ⟨11, .chain⟩, ⟨0, .phase⟩, ⟨1, .phase⟩, ⟨2, .phase⟩, ⟨3, .phase⟩, ⟨4, .phase⟩, ⟨5, .phase⟩, ⟨6, .phase⟩, ⟨7, .phase⟩, ⟨8, .phase⟩, ⟨9, .phase⟩, ⟨10, .phase⟩, ⟨11, .phase⟩], guard := none } : Go.Oper)) (v := ?v112) rfl (by kernel_rfl) (by kernel_rfl) (by kernel_rfl) (fun _ _ _ h => h) (Or.inl ⟨by rfl, ?hy112⟩) (by assumption) ?rest112
         case hy112 => (intro w hSw; (try dsimp only at hSw); go_simp; (try with_reducible rfl))
         (try simp only [Act.put, List.getElem_toArray, List.getElem_cons_zero, List.getElem_cons_succ, List.setIfInBounds_toArray, List.set_cons_zero, List.set_cons_succ])
         refine wpAnyH_done (by kernel_rfl) ?_ _
        case' more108 =>
         refine AllReadyH.cons (o := ({ dst := some 32, op := .call { callee := .value (.func 11), args := #[.const (.int .i64 2), .const (.int .i64 1), .const (.int .u8 97), .const (.int .u8 98)], argTypes := #[2, 3, 5, 5] }, type := 42, pos := "law.go:21", after := #[⟨2, .chain⟩], guard := none } : Go.Oper)) rfl (fun K hK => ?_) AllReadyH.nil
         go_simp; refine (ltab_any 2 1 97 98 _ ⟨by decide, by decide⟩ ⟨by decide, by decide⟩).mono ?_; rintro e wt2 ⟨At2, ct2, Bt2, dt2, rfl, hrt2, hwt2⟩; have HT2 := Lib.hid (show RdT wt2 _ kt2 from hrt2); clear hrt2; (try (have HBO := Lib.hid (blkX HBO.out (show Ext _ wt2 from (by with_reducible (repeat (first | exact Ext.rfl_ _ | assumption | refine Ext.drew ?_ | refine Ext.drewN ?_ _ | refine Ext.alloc ?_ _ | refine Ext.trans ?_ (by assumption)))))))); (try (go_wp2_with fail))
         refine hK.out _ _ (by exact HS3.out _ (by with_reducible (repeat (first | assumption | exact .rfl_ _ | refine .drew ?_ | refine .alloc ?_ _ | refine .setCell ?_ (by omega) _ | refine .trans ?_ (by assumption))))) (fun _ => ?_)
         clear hK K
         (try simp only [Act.put, List.getElem_toArray, List.getElem_cons_zero, List.getElem_cons_succ, List.setIfInBounds_toArray, List.set_cons_zero, List.set_cons_succ])
         refine wpAnyH_ready (rs := [1, 4]) (by kernel_rfl) (by simp) ?_
         refine AllReadyH.cons (o := ({ dst := some 30, op := .buildSlice 26 1 #[(0, .const (.int .i64 1))], type := 26, pos := "law.go:21", after := #[], guard := none } : Go.Oper)) rfl (fun K hK => ?one113) ?more113
         case' one113 =>
          go_simp; (first | refine k_allocD (w0 := W3) ?_ (fun hb => ?_) | refine k_alloc (w0 := W3) ?_ (fun hb => ?_)); exact (by with_reducible (repeat (first | exact Ext.rfl_ _ | assumption | refine Ext.drew ?_ | refine Ext.drewN ?_ _ | refine Ext.alloc ?_ _ | refine Ext.trans ?_ (by assumption)))); (try simp only [World.size_alloc] at hb); have HDB := Lib.hid hb.1; clear hb
          refine hK.out _ _ (by exact HS3.out _ (by with_reducible (repeat (first | assumption | exact .rfl_ _ | refine .drew ?_ | refine .alloc ?_ _ | refine .setCell ?_ (by omega) _ | refine .trans ?_ (by assumption))))) (fun _ => ?_)
          clear hK K
          (try simp only [Act.put, List.getElem_toArray, List.getElem_cons_zero, List.getElem_cons_succ, List.setIfInBounds_toArray, List.set_cons_zero, List.set_cons_succ])
          refine wpAnyH_ready (rs := [4]) (by kernel_rfl) (by simp) ?_
          refine AllReadyH.cons (o := ({ dst := some 33, op := .buildSlice 22 2 #[(0, .tmp 31), (1, .tmp 32)], type := 22, pos := "law.go:21", after := #[⟨2, .data⟩, ⟨3, .data⟩], guard := none } : Go.Oper)) rfl (fun K hK => ?_) AllReadyH.nil
          go_simp; (first | refine k_allocD (w0 := W3) ?_ (fun hb => ?_) | refine k_alloc (w0 := W3) ?_ (fun hb => ?_)); exact (by with_reducible (repeat (first | exact Ext.rfl_ _ | assumption | refine Ext.drew ?_ | refine Ext.drewN ?_ _ | refine Ext.alloc ?_ _ | refine Ext.trans ?_ (by assumption)))); (try simp only [World.size_alloc] at hb); have HL2 := Lib.hid (rdT2 (t := kt3) (t' := kt2) hb.1 rfl rfl rfl rfl rfl rfl (HT3.out.ext (by with_reducible (repeat (first | exact Ext.rfl_ _ | assumption | refine Ext.drew ?_ | refine Ext.drewN ?_ _ | refine Ext.alloc ?_ _ | refine Ext.trans ?_ (by assumption))))) (HT2.out.ext (by with_reducible (repeat (first | exact Ext.rfl_ _ | assumption | refine Ext.drew ?_ | refine Ext.drewN ?_ _ | refine Ext.alloc ?_ _ | refine Ext.trans ?_ (by assumption)))))); clear hb
          refine hK.out _ _ (by exact HS3.out _ (by with_reducible (repeat (first | assumption | exact .rfl_ _ | refine .drew ?_ | refine .alloc ?_ _ | refine .setCell ?_ (by omega) _ | refine .trans ?_ (by assumption))))) (fun _ => ?_)
          clear hK K
          (try simp only [Act.put, List.getElem_toArray, List.getElem_cons_zero, List.getElem_cons_succ, List.setIfInBounds_toArray, List.set_cons_zero, List.set_cons_succ])
          refine wpAnyH_ready (rs := [5]) (by kernel_rfl) (by simp) ?_
          refine AllReadyH.cons (o := ({ dst := some 34, op := .build 28 #[(0, .tmp 30), (1, .tmp 33), (2, .const (.int .i64 4)), (5, .const (.int .i64 3))], type := 28, pos := "law.go:21", after := #[⟨1, .data⟩, ⟨4, .data⟩], guard := none } : Go.Oper)) rfl (fun K hK => ?_) AllReadyH.nil
          go_simp
          refine hK.out _ _ (by exact HS3.out _ (by with_reducible (repeat (first | assumption | exact .rfl_ _ | refine .drew ?_ | refine .alloc ?_ _ | refine .setCell ?_ (by omega) _ | refine .trans ?_ (by assumption))))) (fun _ => ?_)
          clear hK K
          (try simp only [Act.put, List.getElem_toArray, List.getElem_cons_zero, List.getElem_cons_succ, List.setIfInBounds_toArray, List.set_cons_zero, List.set_cons_succ])
          refine wpAnyH_ready (rs := [6]) (by kernel_rfl) (by simp) ?_
          refine AllReadyH.cons (o := ({ dst := some 35, op := .call { callee := .value (.func 7), args := #[.tmp 29, .tmp 34], argTypes := #[24, 28] }, type := 33, pos := "law.go:21", after := #[⟨0, .data⟩, ⟨5, .data⟩, ⟨3, .chain⟩], guard := none } : Go.Oper)) rfl (fun K hK => ?_) AllReadyH.nil
          go_simp; refine (kdo2_any A2 c2 _ _ _ (HR3.out.ext (by with_reducible (repeat (first | exact Ext.rfl_ _ | assumption | refine Ext.drew ?_ | refine Ext.drewN ?_ _ | refine Ext.alloc ?_ _ | refine Ext.trans ?_ (by assumption))))) HC2.out (rdN1 (blkX HDB.out (by with_reducible (repeat (first | exact Ext.rfl_ _ | assumption | refine Ext.drew ?_ | refine Ext.drewN ?_ _ | refine Ext.alloc ?_ _ | refine Ext.trans ?_ (by assumption))))) ⟨by decide, by decide⟩) (HL2.out.ext (by with_reducible (repeat (first | exact Ext.rfl_ _ | assumption | refine Ext.drew ?_ | refine Ext.drewN ?_ _ | refine Ext.alloc ?_ _ | refine Ext.trans ?_ (by assumption)))))).mono ?_; rintro e wd ⟨b4, A4, c4, rfl, ho4, hc4, hx⟩; have HO4 := Lib.hid ho4; have HC4 := Lib.hid hc4; clear hc4 ho4; (try (have HBO := Lib.hid (blkX HBO.out (show Ext _ wd from (by with_reducible (repeat (first | exact Ext.rfl_ _ | assumption | refine Ext.drew ?_ | refine Ext.drewN ?_ _ | refine Ext.alloc ?_ _ | refine Ext.trans ?_ (by assumption)))))))); (try (go_wp2_with fail))
          refine hK.out _ _ (by exact HS3.out _ (by with_reducible (repeat (first | assumption | exact .rfl_ _ | refine .drew ?_ | refine .alloc ?_ _ | refine .setCell ?_ (by omega) _ | refine .trans ?_ (by assumption))))) (fun _ => ?_)
          clear hK K
          refine wpAnyH_take (i := 7) (oi := ({ dst := some 28, op := .move (.tmp 35), type := 33, pos := "law.go:21", after := #[⟨6, .data⟩], guard := none } : Go.Oper)) (v := ?v114) rfl (by kernel_rfl) (by kernel_rfl) (by kernel_rfl) (fun _ _ _ h => h) (Or.inl ⟨by rfl, ?hy114⟩) (by assumption) ?rest114
          case hy114 => (intro w hSw; (try dsimp only at hSw); go_simp; (try with_reducible rfl))
          refine wpAnyH_take (i := 8) (oi := ({ dst := some 36, op := .extract (.tmp 28) 0, type := 24, pos := "law.go:21", after := #[⟨7, .data⟩], guard := none } : Go.Oper)) (v := ?v115) rfl (by kernel_rfl) (by kernel_rfl) (by kernel_rfl) (fun _ _ _ h => h) (Or.inl ⟨by rfl, ?hy115⟩) (by assumption) ?rest115
          case hy115 => (intro w hSw; (try dsimp only at hSw); go_simp; (try with_reducible rfl))
          refine wpAnyH_take (i := 9) (oi := ({ dst := some 37, op := .extract (.tmp 28) 1, type := 29, pos := "law.go:21", after := #[⟨7, .data⟩, ⟨11, .gcOnly .lateStores⟩], guard := none } : Go.Oper)) (v := ?v116) rfl (by kernel_rfl) (by kernel_rfl) (by kernel_rfl) (fun _ _ _ h => h) (Or.inl ⟨by rfl, ?hy116⟩) (by assumption) ?rest116
          case hy116 => (intro w hSw; (try dsimp only at hSw); go_simp; (try with_reducible rfl))
          (try simp only [Act.put, List.getElem_toArray, List.getElem_cons_zero, List.getElem_cons_succ, List.setIfInBounds_toArray, List.set_cons_zero, List.set_cons_succ])
          refine wpAnyH_ready (rs := [11]) (by kernel_rfl) (by simp) ?_
          refine AllReadyH.cons (o := ({ dst := none, op := .store 24 (.tmp 3) (.tmp 36), type := 0, pos := "law.go:21", after := #[⟨10, .data⟩, ⟨8, .data⟩, ⟨6, .chain⟩, ⟨0, .phase⟩, ⟨1, .phase⟩, ⟨2, .phase⟩, ⟨3, .phase⟩, ⟨4, .phase⟩, ⟨5, .phase⟩, ⟨6, .phase⟩, ⟨7, .phase⟩, ⟨8, .phase⟩, ⟨9, .textOnly .lateStores⟩, ⟨10, .phase⟩], guard := none } : Go.Oper)) rfl (fun K hK => ?_) AllReadyH.nil
          obtain ⟨o0, o1, o2, o3, o4, p0, p1, p2, p3, p4⟩ := box5 HBO.out (Ext.rfl_ _); go_simp
          refine hK.out _ _ (by exact HS3.out _ (by with_reducible (repeat (first | assumption | exact .rfl_ _ | refine .drew ?_ | refine .alloc ?_ _ | refine .setCell ?_ (by omega) _ | refine .trans ?_ (by assumption))))) (fun _ => ?_)
          clear hK K
          refine wpAnyH_take (i := 12) (oi := ({ dst := some 2, op := .assign (.tmp 37), type := 29, pos := "law.go:21", after := #[⟨9, .data⟩, ⟨11, .chain⟩, ⟨0, .phase⟩, ⟨1, .phase⟩, ⟨2, .phase⟩, ⟨3, .phase⟩, ⟨4, .phase⟩, ⟨5, .phase⟩, ⟨6, .phase⟩, ⟨7, .phase⟩, ⟨8, .phase⟩, ⟨9, .phase⟩, ⟨10, .phase⟩, ⟨11, .phase⟩], guard := none } : Go.Oper)) (v := ?v117) rfl (by kernel_rfl) (by kernel_rfl) (by kernel_rfl) (fun _ _ _ h => h) (Or.inl ⟨by rfl, ?hy117⟩) (by assumption) ?rest117
          case hy117 => (intro w hSw; (try dsimp only at hSw); go_simp; (try with_reducible rfl))
          (try simp only [Act.put, List.getElem_toArray, List.getElem_cons_zero, List.getElem_cons_succ, List.setIfInBounds_toArray, List.set_cons_zero, List.set_cons_succ])
          refine wpAnyH_done (by kernel_rfl) ?_ _
         case' more113 =>
          refine AllReadyH.cons (o := ({ dst := some 33, op := .buildSlice 22 2 #[(0, .tmp 31), (1, .tmp 32)], type := 22, pos := "law.go:21", after := #[⟨2, .data⟩, ⟨3, .data⟩], guard := none } : Go.Oper)) rfl (fun K hK => ?_) AllReadyH.nil
          go_simp; (first | refine k_allocD (w0 := W3) ?_ (fun hb => ?_) | refine k_alloc (w0 := W3) ?_ (fun hb => ?_)); exact (by with_reducible (repeat (first | exact Ext.rfl_ _ | assumption | refine Ext.drew ?_ | refine Ext.drewN ?_ _ | refine Ext.alloc ?_ _ | refine Ext.trans ?_ (by assumption)))); (try simp only [World.size_alloc] at hb); have HL2 := Lib.hid (rdT2 (t := kt3) (t' := kt2) hb.1 rfl rfl rfl rfl rfl rfl (HT3.out.ext (by with_reducible (repeat (first | exact Ext.rfl_ _ | assumption | refine Ext.drew ?_ | refine Ext.drewN ?_ _ | refine Ext.alloc ?_ _ | refine Ext.trans ?_ (by assumption))))) (HT2.out.ext (by with_reducible (repeat (first | exact Ext.rfl_ _ | assumption | refine Ext.drew ?_ | refine Ext.drewN ?_ _ | refine Ext.alloc ?_ _ | refine Ext.trans ?_ (by assumption)))))); clear hb
          refine hK.out _ _ (by exact HS3.out _ (by with_reducible (repeat (first | assumption | exact .rfl_ _ | refine .drew ?_ | refine .alloc ?_ _ | refine .setCell ?_ (by omega) _ | refine .trans ?_ (by assumption))))) (fun _ => ?_)
          clear hK K
          (try simp only [Act.put, List.getElem_toArray, List.getElem_cons_zero, List.getElem_cons_succ, List.setIfInBounds_toArray, List.set_cons_zero, List.set_cons_succ])
          refine wpAnyH_ready (rs := [1]) (by kernel_rfl) (by simp) ?_
          refine AllReadyH.cons (o := ({ dst := some 30, op := .buildSlice 26 1 #[(0, .const (.int .i64 1))], type := 26, pos := "law.go:21", after := #[], guard := none } : Go.Oper)) rfl (fun K hK => ?_) AllReadyH.nil
          go_simp; (first | refine k_allocD (w0 := W3) ?_ (fun hb => ?_) | refine k_alloc (w0 := W3) ?_ (fun hb => ?_)); exact (by with_reducible (repeat (first | exact Ext.rfl_ _ | assumption | refine Ext.drew ?_ | refine Ext.drewN ?_ _ | refine Ext.alloc ?_ _ | refine Ext.trans ?_ (by assumption)))); (try simp only [World.size_alloc] at hb); have HDB := Lib.hid hb.1; clear hb
          refine hK.out _ _ (by exact HS3.out _ (by with_reducible (repeat (first | assumption | exact .rfl_ _ | refine .drew ?_ | refine .alloc ?_ _ | refine .setCell ?_ (by omega) _ | refine .trans ?_ (by assumption))))) (fun _ => ?_)
          clear hK K
          (try simp only [Act.put, List.getElem_toArray, List.getElem_cons_zero, List.getElem_cons_succ, List.setIfInBounds_toArray, List.set_cons_zero, List.set_cons_succ])
          refine wpAnyH_ready (rs := [5]) (by kernel_rfl) (by simp) ?_
          refine AllReadyH.cons (o := ({ dst := some 34, op := .build 28 #[(0, .tmp 30), (1, .tmp 33), (2, .const (.int .i64 4)), (5, .const (.int .i64 3))], type := 28, pos := "law.go:21", after := #[⟨1, .data⟩, ⟨4, .data⟩], guard := none } : Go.Oper)) rfl (fun K hK => ?_) AllReadyH.nil
          go_simp
          refine hK.out _ _ (by exact HS3.out _ (by with_reducible (repeat (first | assumption | exact .rfl_ _ | refine .drew ?_ | refine .alloc ?_ _ | refine .setCell ?_ (by omega) _ | refine .trans ?_ (by assumption))))) (fun _ => ?_)
          clear hK K
          (try simp only [Act.put, List.getElem_toArray, List.getElem_cons_zero, List.getElem_cons_succ, List.setIfInBounds_toArray, List.set_cons_zero, List.set_cons_succ])
          refine wpAnyH_ready (rs := [6]) (by kernel_rfl) (by simp) ?_
          refine AllReadyH.cons (o := ({ dst := some 35, op := .call { callee := .value (.func 7), args := #[.tmp 29, .tmp 34], argTypes := #[24, 28] }, type := 33, pos := "law.go:21", after := #[⟨0, .data⟩, ⟨5, .data⟩, ⟨3, .chain⟩], guard := none } : Go.Oper)) rfl (fun K hK => ?_) AllReadyH.nil
          go_simp; refine (kdo2_any A2 c2 _ _ _ (HR3.out.ext (by with_reducible (repeat (first | exact Ext.rfl_ _ | assumption | refine Ext.drew ?_ | refine Ext.drewN ?_ _ | refine Ext.alloc ?_ _ | refine Ext.trans ?_ (by assumption))))) HC2.out (rdN1 (blkX HDB.out (by with_reducible (repeat (first | exact Ext.rfl_ _ | assumption | refine Ext.drew ?_ | refine Ext.drewN ?_ _ | refine Ext.alloc ?_ _ | refine Ext.trans ?_ (by assumption))))) ⟨by decide, by decide⟩) (HL2.out.ext (by with_reducible (repeat (first | exact Ext.rfl_ _ | assumption | refine Ext.drew ?_ | refine Ext.drewN ?_ _ | refine Ext.alloc ?_ _ | refine Ext.trans ?_ (by assumption)))))).mono ?_; rintro e wd ⟨b4, A4, c4, rfl, ho4, hc4, hx⟩; have HO4 := Lib.hid ho4; have HC4 := Lib.hid hc4; clear hc4 ho4; (try (have HBO := Lib.hid (blkX HBO.out (show Ext _ wd from (by with_reducible (repeat (first | exact Ext.rfl_ _ | assumption | refine Ext.drew ?_ | refine Ext.drewN ?_ _ | refine Ext.alloc ?_ _ | refine Ext.trans ?_ (by assumption)))))))); (try (go_wp2_with fail))
          refine hK.out _ _ (by exact HS3.out _ (by with_reducible (repeat (first | assumption | exact .rfl_ _ | refine .drew ?_ | refine .alloc ?_ _ | refine .setCell ?_ (by omega) _ | refine .trans ?_ (by assumption))))) (fun _ => ?_)
          clear hK K
          refine wpAnyH_take (i := 7) (oi := ({ dst := some 28, op := .move (.tmp 35), type := 33, pos := "law.go:21", after := #[⟨6, .data⟩], guard := none } : Go.Oper)) (v := ?v118) rfl (by kernel_rfl) (by kernel_rfl) (by kernel_rfl) (fun _ _ _ h => h) (Or.inl ⟨by rfl, ?hy118⟩) (by assumption) ?rest118
          case hy118 => (intro w hSw; (try dsimp only at hSw); go_simp; (try with_reducible rfl))
          refine wpAnyH_take (i := 8) (oi := ({ dst := some 36, op := .extract (.tmp 28) 0, type := 24, pos := "law.go:21", after := #[⟨7, .data⟩], guard := none } : Go.Oper)) (v := ?v119) rfl (by kernel_rfl) (by kernel_rfl) (by kernel_rfl) (fun _ _ _ h => h) (Or.inl ⟨by rfl, ?hy119⟩) (by assumption) ?rest119
          case hy119 => (intro w hSw; (try dsimp only at hSw); go_simp; (try with_reducible rfl))
          refine wpAnyH_take (i := 9) (oi := ({ dst := some 37, op := .extract (.tmp 28) 1, type := 29, pos := "law.go:21", after := #[⟨7, .data⟩, ⟨11, .gcOnly .lateStores⟩], guard := none } : Go.Oper)) (v := ?v120) rfl (by kernel_rfl) (by kernel_rfl) (by kernel_rfl) (fun _ _ _ h => h) (Or.inl ⟨by rfl, ?hy120⟩) (by assumption) ?rest120
          case hy120 => (intro w hSw; (try dsimp only at hSw); go_simp; (try with_reducible rfl))
          (try simp only [Act.put, List.getElem_toArray, List.getElem_cons_zero, List.getElem_cons_succ, List.setIfInBounds_toArray, List.set_cons_zero, List.set_cons_succ])
          refine wpAnyH_ready (rs := [11]) (by kernel_rfl) (by simp) ?_
          refine AllReadyH.cons (o := ({ dst := none, op := .store 24 (.tmp 3) (.tmp 36), type := 0, pos := "law.go:21", after := #[⟨10, .data⟩, ⟨8, .data⟩, ⟨6, .chain⟩, ⟨0, .phase⟩, ⟨1, .phase⟩, ⟨2, .phase⟩, ⟨3, .phase⟩, ⟨4, .phase⟩, ⟨5, .phase⟩, ⟨6, .phase⟩, ⟨7, .phase⟩, ⟨8, .phase⟩, ⟨9, .textOnly .lateStores⟩, ⟨10, .phase⟩], guard := none } : Go.Oper)) rfl (fun K hK => ?_) AllReadyH.nil
          obtain ⟨o0, o1, o2, o3, o4, p0, p1, p2, p3, p4⟩ := box5 HBO.out (Ext.rfl_ _); go_simp
          refine hK.out _ _ (by exact HS3.out _ (by with_reducible (repeat (first | assumption | exact .rfl_ _ | refine .drew ?_ | refine .alloc ?_ _ | refine .setCell ?_ (by omega) _ | refine .trans ?_ (by assumption))))) (fun _ => ?_)
          clear hK K
          refine wpAnyH_take (i := 12) (oi := ({ dst := some 2, op := .assign (.tmp 37), type := 29, pos := "law.go:21", after := #[⟨9, .data⟩, ⟨11, .chain⟩, ⟨0, .phase⟩, ⟨1, .phase⟩, ⟨2, .phase⟩, ⟨3, .phase⟩, ⟨4, .phase⟩, ⟨5, .phase⟩, ⟨6, .phase⟩, ⟨7, .phase⟩, ⟨8, .phase⟩, ⟨9, .phase⟩, ⟨10, .phase⟩, ⟨11, .phase⟩], guard := none } : Go.Oper)) (v := ?v121) rfl (by kernel_rfl) (by kernel_rfl) (by kernel_rfl) (fun _ _ _ h => h) (Or.inl ⟨by rfl, ?hy121⟩) (by assumption) ?rest121
          case hy121 => (intro w hSw; (try dsimp only at hSw); go_simp; (try with_reducible rfl))
          (try simp only [Act.put, List.getElem_toArray, List.getElem_cons_zero, List.getElem_cons_succ, List.setIfInBounds_toArray, List.set_cons_zero, List.set_cons_succ])
          refine wpAnyH_done (by kernel_rfl) ?_ _
     case' more32 =>
      refine AllReadyH.cons (o := ({ dst := some 3, op := .alloc 24, type := 0, pos := "law.go:21", after := #[], guard := none } : Go.Oper)) rfl (fun K hK => ?_) AllReadyH.nil
      go_simp; (first | refine k_allocD (w0 := W3) ?_ (fun hb => ?_) | refine k_alloc (w0 := W3) ?_ (fun hb => ?_)); exact (by with_reducible (repeat (first | exact Ext.rfl_ _ | assumption | refine Ext.drew ?_ | refine Ext.drewN ?_ _ | refine Ext.alloc ?_ _ | refine Ext.trans ?_ (by assumption)))); (try simp only [World.size_alloc] at hb); have HBO := Lib.hid hb.1; have zo := hb.2; clear hb; (try have ALAST := Lib.hid HC4.out)
      refine hK.out _ _ (by exact HS3.out _ (by with_reducible (repeat (first | assumption | exact .rfl_ _ | refine .drew ?_ | refine .alloc ?_ _ | refine .setCell ?_ (by omega) _ | refine .trans ?_ (by assumption))))) (fun _ => ?_)
      clear hK K
      (try simp only [Act.put, List.getElem_toArray, List.getElem_cons_zero, List.getElem_cons_succ, List.setIfInBounds_toArray, List.set_cons_zero, List.set_cons_succ])
      refine wpAnyH_ready (rs := [1, 2]) (by kernel_rfl) (by simp) ?_
      refine AllReadyH.cons (o := ({ dst := some 30, op := .buildSlice 26 1 #[(0, .const (.int .i64 1))], type := 26, pos := "law.go:21", after := #[], guard := none } : Go.Oper)) rfl (fun K hK => ?one122) ?more122
      case' one122 =>
       go_simp; (first | refine k_allocD (w0 := W3) ?_ (fun hb => ?_) | refine k_alloc (w0 := W3) ?_ (fun hb => ?_)); exact (by with_reducible (repeat (first | exact Ext.rfl_ _ | assumption | refine Ext.drew ?_ | refine Ext.drewN ?_ _ | refine Ext.alloc ?_ _ | refine Ext.trans ?_ (by assumption)))); (try simp only [World.size_alloc] at hb); have HDB := Lib.hid hb.1; clear hb
       refine hK.out _ _ (by exact HS3.out _ (by with_reducible (repeat (first | assumption | exact .rfl_ _ | refine .drew ?_ | refine .alloc ?_ _ | refine .setCell ?_ (by omega) _ | refine .trans ?_ (by assumption))))) (fun _ => ?_)
       clear hK K
       (try simp only [Act.put, List.getElem_toArray, List.getElem_cons_zero, List.getElem_cons_succ, List.setIfInBounds_toArray, List.set_cons_zero, List.set_cons_succ])
       refine wpAnyH_ready (rs := [2]) (by kernel_rfl) (by simp) ?_
       refine AllReadyH.cons (o := ({ dst := some 31, op := .call { callee := .value (.func 11), args := #[.const (.int .i64 3), .const (.int .i64 1), .const (.int .u8 99), .const (.int .u8 99)], argTypes := #[2, 3, 5, 5] }, type := 42, pos := "law.go:21", after := #[], guard := none } : Go.Oper)) rfl (fun K hK => ?_) AllReadyH.nil
       go_simp; refine (ltab_any 3 1 99 99 _ ⟨by decide, by decide⟩ ⟨by decide, by decide⟩).mono ?_; rintro e wt3 ⟨At3, ct3, Bt3, dt3, rfl, hrt3, hwt3⟩; have HT3 := Lib.hid (show RdT wt3 _ kt3 from hrt3); clear hrt3; (try (have HBO := Lib.hid (blkX HBO.out (show Ext _ wt3 from (by with_reducible (repeat (first | exact Ext.rfl_ _ | assumption | refine Ext.drew ?_ | refine Ext.drewN ?_ _ | refine Ext.alloc ?_ _ | refine Ext.trans ?_ (by assumption)))))))); (try (go_wp2_with fail))
       refine hK.out _ _ (by exact HS3.out _ (by with_reducible (repeat (first | assumption | exact .rfl_ _ | refine .drew ?_ | refine .alloc ?_ _ | refine .setCell ?_ (by omega) _ | refine .trans ?_ (by assumption))))) (fun _ => ?_)
       clear hK K
       (try simp only [Act.put, List.getElem_toArray, List.getElem_cons_zero, List.getElem_cons_succ, List.setIfInBounds_toArray, List.set_cons_zero, List.set_cons_succ])
       refine wpAnyH_ready (rs := [3]) (by kernel_rfl) (by simp) ?_
       refine AllReadyH.cons (o := ({ dst := some 32, op := .call { callee := .value (.func 11), args := #[.const (.int .i64 2), .const (.int .i64 1), .const (.int .u8 97), .const (.int .u8 98)], argTypes := #[2, 3, 5, 5] }, type := 42, pos := "law.go:21", after := #[⟨2, .chain⟩], guard := none } : Go.Oper)) rfl (fun K hK => ?_) AllReadyH.nil
       go_simp; refine (ltab_any 2 1 97 98 _ ⟨by decide, by decide⟩ ⟨by decide, by decide⟩).mono ?_; rintro e wt2 ⟨At2, ct2, Bt2, dt2, rfl, hrt2, hwt2⟩; have HT2 := Lib.hid (show RdT wt2 _ kt2 from hrt2); clear hrt2; (try (have HBO := Lib.hid (blkX HBO.out (show Ext _ wt2 from (by with_reducible (repeat (first | exact Ext.rfl_ _ | assumption | refine Ext.drew ?_ | refine Ext.drewN ?_ _ | refine Ext.alloc ?_ _ | refine Ext.trans ?_ (by assumption)))))))); (try (go_wp2_with fail))
       refine hK.out _ _ (by exact HS3.out _ (by with_reducible (repeat (first | assumption | exact .rfl_ _ | refine .drew ?_ | refine .alloc ?_ _ | refine .setCell ?_ (by omega) _ | refine .trans ?_ (by assumption))))) (fun _ => ?_)
       clear hK K
       (try simp only [Act.put, List.getElem_toArray, List.getElem_cons_zero, List.getElem_cons_succ, List.setIfInBounds_toArray, List.set_cons_zero, List.set_cons_succ])
       refine wpAnyH_ready (rs := [4]) (by kernel_rfl) (by simp) ?_
       refine AllReadyH.cons (o := ({ dst := some 33, op := .buildSlice 22 2 #[(0, .tmp 31), (1, .tmp 32)], type := 22, pos := "law.go:21", after := #[⟨2, .data⟩, ⟨3, .data⟩], guard := none } : Go.Oper)) rfl (fun K hK => ?_) AllReadyH.nil
       go_simp; (first | refine k_allocD (w0 := W3) ?_ (fun hb => ?_) | refine k_alloc (w0 := W3) ?_ (fun hb => ?_)); exact (by with_reducible (repeat (first | exact Ext.rfl_ _ | assumption | refine Ext.drew ?_ | refine Ext.drewN ?_ _ | refine Ext.alloc ?_ _ | refine Ext.trans ?_ (by assumption)))); (try simp only [World.size_alloc] at hb); have HL2 := Lib.hid (rdT2 (t := kt3) (t' := kt2) hb.1 rfl rfl rfl rfl rfl rfl (HT3.out.ext (by with_reducible (repeat (first | exact Ext.rfl_ _ | assumption | refine Ext.drew ?_ | refine Ext.drewN ?_ _ | refine Ext.alloc ?_ _ | refine Ext.trans ?_ (by assumption))))) (HT2.out.ext (by with_reducible (repeat (first | exact Ext.rfl_ _ | assumption | refine Ext.drew ?_ | refine Ext.drewN ?_ _ | refine Ext.alloc ?_ _ | refine Ext.trans ?_ (by assumption)))))); clear hb
       refine hK.out _ _ (by exact HS3.out _ (by with_reducible (repeat (first | assumption | exact .rfl_ _ | refine .drew ?_ | refine .alloc ?_ _ | refine .setCell ?_ (by omega) _ | refine .trans ?_ (by assumption))))) (fun _ => ?_)
       clear hK K
       (try simp only [Act.put, List.getElem_toArray, List.getElem_cons_zero, List.getElem_cons_succ, List.setIfInBounds_toArray, List.set_cons_zero, List.set_cons_succ])
       refine wpAnyH_ready (rs := [5]) (by kernel_rfl) (by simp) ?_
       refine AllReadyH.cons (o := ({ dst := some 34, op := .build 28 #[(0, .tmp 30), (1, .tmp 33), (2, .const (.int .i64 4)), (5, .const (.int .i64 3))], type := 28, pos := "law.go:21", after := #[⟨1, .data⟩, ⟨4, .data⟩], guard := none } : Go.Oper)) rfl (fun K hK => ?_) AllReadyH.nil
       go_simp
       refine hK.out _ _ (by exact HS3.out _ (by with_reducible (repeat (first | assumption | exact .rfl_ _ | refine .drew ?_ | refine .alloc ?_ _ | refine .setCell ?_ (by omega) _ | refine .trans ?_ (by assumption))))) (fun _ => ?_)
       clear hK K
       (try simp only [Act.put, List.getElem_toArray, List.getElem_cons_zero, List.getElem_cons_succ, List.setIfInBounds_toArray, List.set_cons_zero, List.set_cons_succ])
       refine wpAnyH_ready (rs := [6]) (by kernel_rfl) (by simp) ?_
       refine AllReadyH.cons (o := ({ dst := some 35, op := .call { callee := .value (.func 7), args := #[.tmp 29, .tmp 34], argTypes := #[24, 28] }, type := 33, pos := "law.go:21", after := #[⟨0, .data⟩, ⟨5, .data⟩, ⟨3, .chain⟩], guard := none } : Go.Oper)) rfl (fun K hK => ?_) AllReadyH.nil
       go_simp; refine (kdo2_any A2 c2 _ _ _ (HR3.out.ext (by with_reducible (repeat (first | exact Ext.rfl_ _ | assumption | refine Ext.drew ?_ | refine Ext.drewN ?_ _ | refine Ext.alloc ?_ _ | refine Ext.trans ?_ (by assumption))))) HC2.out (rdN1 (blkX HDB.out (by with_reducible (repeat (first | exact Ext.rfl_ _ | assumption | refine Ext.drew ?_ | refine Ext.drewN ?_ _ | refine Ext.alloc ?_ _ | refine Ext.trans ?_ (by assumption))))) ⟨by decide, by decide⟩) (HL2.out.ext (by with_reducible (repeat (first | exact Ext.rfl_ _ | assumption | refine Ext.drew ?_ | refine Ext.drewN ?_ _ | refine Ext.alloc ?_ _ | refine Ext.trans ?_ (by assumption)))))).mono ?_; rintro e wd ⟨b4, A4, c4, rfl, ho4, hc4, hx⟩; have HO4 := Lib.hid ho4; have HC4 := Lib.hid hc4; clear hc4 ho4; (try (have HBO := Lib.hid (blkX HBO.out (show Ext _ wd from (by with_reducible (repeat (first | exact Ext.rfl_ _ | assumption | refine Ext.drew ?_ | refine Ext.drewN ?_ _ | refine Ext.alloc ?_ _ | refine Ext.trans ?_ (by assumption)))))))); (try (go_wp2_with fail))
       refine hK.out _ _ (by exact HS3.out _ (by with_reducible (repeat (first | assumption | exact .rfl_ _ | refine .drew ?_ | refine .alloc ?_ _ | refine .setCell ?_ (by omega) _ | refine .trans ?_ (by assumption))))) (fun _ => ?_)
       clear hK K
       refine wpAnyH_take (i := 7) (oi := ({ dst := some 28, op := .move (.tmp 35), type := 33, pos := "law.go:21", after := #[⟨6, .data⟩], guard := none } : Go.Oper)) (v := ?v123) rfl (by kernel_rfl) (by kernel_rfl) (by kernel_rfl) (fun _ _ _ h => h) (Or.inl ⟨by rfl, ?hy123⟩) (by assumption) ?rest123
       case hy123 => (intro w hSw; (try dsimp only at hSw); go_simp; (try with_reducible rfl))
       refine wpAnyH_take (i := 8) (oi := ({ dst := some 36, op := .extract (.tmp 28) 0, type := 24, pos := "law.go:21", after := #[⟨7, .data⟩], guard := none } : Go.Oper)) (v := ?v124) rfl (by kernel_rfl) (by kernel_rfl) (by kernel_rfl) (fun _ _ _ h => h) (Or.inl ⟨by rfl, ?hy124⟩) (by assumption) ?rest124
       case hy124 => (intro w hSw; (try dsimp only at hSw); go_simp; (try with_reducible rfl))
       refine wpAnyH_take (i := 9) (oi := ({ dst := some 37, op := .extract (.tmp 28) 1, type := 29, pos := "law.go:21", after := #[⟨7, .data⟩, ⟨11, .gcOnly .lateStores⟩], guard := none } : Go.Oper)) (v := ?v125) rfl (by kernel_rfl) (by kernel_rfl) (by kernel_rfl) (fun _ _ _ h => h) (Or.inl ⟨by rfl, ?hy125⟩) (by assumption) ?rest125
       case hy125 => (intro w hSw; (try dsimp only at hSw); go_simp; (try with_reducible rfl))
       (try simp only [Act.put, List.getElem_toArray, List.getElem_cons_zero, List.getElem_cons_succ, List.setIfInBounds_toArray, List.set_cons_zero, List.set_cons_succ])
       refine wpAnyH_ready (rs := [11]) (by kernel_rfl) (by simp) ?_
       refine AllReadyH.cons (o := ({ dst := none, op := .store 24 (.tmp 3) (.tmp 36), type := 0, pos := "law.go:21", after := #[⟨10, .data⟩, ⟨8, .data⟩, ⟨6, .chain⟩, ⟨0, .phase⟩, ⟨1, .phase⟩, ⟨2, .phase⟩, ⟨3, .phase⟩, ⟨4, .phase⟩, ⟨5, .phase⟩, ⟨6, .phase⟩, ⟨7, .phase⟩, ⟨8, .phase⟩, ⟨9, .textOnly .lateStores⟩, ⟨10, .phase⟩], guard := none } : Go.Oper)) rfl (fun K hK => ?_) AllReadyH.nil
       obtain ⟨o0, o1, o2, o3, o4, p0, p1, p2, p3, p4⟩ := box5 HBO.out (Ext.rfl_ _); go_simp
       refine hK.out _ _ (by exact HS3.out _ (by with_reducible (repeat (first | assumption | exact .rfl_ _ | refine .drew ?_ | refine .alloc ?_ _ | refine .setCell ?_ (by omega) _ | refine .trans ?_ (by assumption))))) (fun _ => ?_)
       clear hK K
       refine wpAnyH_take (i := 12) (oi := ({ dst := some 2, op := .assign (.tmp 37), type := 29, pos := "law.go:21", after := #[⟨9, .data⟩, ⟨11, .chain⟩, ⟨0, .phase⟩, ⟨1, .phase⟩, ⟨2, .phase⟩, ⟨3, .phase⟩, ⟨4, .phase⟩, ⟨5, .phase⟩, ⟨6, .phase⟩, ⟨7, .phase⟩, ⟨8, .phase⟩, ⟨9, .phase⟩, ⟨10, .phase⟩, ⟨11, .phase⟩], guard := none } : Go.Oper)) (v := ?v126) rfl (by kernel_rfl) (by kernel_rfl) (by kernel_rfl) (fun _ _ _ h => h) (Or.inl ⟨by rfl, ?hy126⟩) (by assumption) ?rest126
       case hy126 => (intro w hSw; (try dsimp only at hSw); go_simp; (try with_reducible rfl))
       (try simp only [Act.put, List.getElem_toArray, List.getElem_cons_zero, List.getElem_cons_succ, List.setIfInBounds_toArray, List.set_cons_zero, List.set_cons_succ])
       refine wpAnyH_done (by kernel_rfl) ?_ _
      case' more122 =>
       refine AllReadyH.cons (o := ({ dst := some 31, op := .call { callee := .value (.func 11), args := #[.const (.int .i64 3), .const (.int .i64 1), .const (.int .u8 99), .const (.int .u8 99)], argTypes := #[2, 3, 5, 5] }, type := 42, pos := "law.go:21", after := #[], guard := none } : Go.Oper)) rfl (fun K hK => ?_) AllReadyH.nil
       go_simp; refine (ltab_any 3 1 99 99 _ ⟨by decide, by decide⟩ ⟨by decide, by decide⟩).mono ?_; rintro e wt3 ⟨At3, ct3, Bt3, dt3, rfl, hrt3, hwt3⟩; have HT3 := Lib.hid (show RdT wt3 _ kt3 from hrt3); clear hrt3; (try (have HBO := Lib.hid (blkX HBO.out (show Ext _ wt3 from (by with_reducible (repeat (first | exact Ext.rfl_ _ | assumption | refine Ext.drew ?_ | refine Ext.drewN ?_ _ | refine Ext.alloc ?_ _ | refine Ext.trans ?_ (by assumption)))))))); (try (go_wp2_with fail))
       refine hK.out _ _ (by exact HS3.out _ (by with_reducible (repeat (first | assumption | exact .rfl_ _ | refine .drew ?_ | refine .alloc ?_ _ | refine .setCell ?_ (by omega) _ | refine .trans ?_ (by assumption))))) (fun _ => ?_)
       clear hK K
       (try simp only [Act.put, List.getElem_toArray, List.getElem_cons_zero, List.getElem_cons_succ, List.setIfInBounds_toArray, List.set_cons_zero, List.set_cons_succ])
       refine wpAnyH_ready (rs := [1, 3]) (by kernel_rfl) (by simp) ?_
       refine AllReadyH.cons (o := ({ dst := some 30, op := .buildSlice 26 1 #[(0, .const (.int .i64 1))], type := 26, pos := "law.go:21", after := #[], guard := none } : Go.Oper)) rfl (fun K hK => ?one127) ?more127
       case' one127 =>
        go_simp; (first | refine k_allocD (w0 := W3) ?_ (fun hb => ?_) | refine k_alloc (w0 := W3) ?_ (fun hb => ?_)); exact (by with_reducible (repeat (first | exact Ext.rfl_ _ | assumption | refine Ext.drew ?_ | refine Ext.drewN ?_ _ | refine Ext.alloc ?_ _ | refine Ext.trans ?_ (by assumption)))); (try simp only [World.size_alloc] at hb); have HDB := Lib.hid hb.1; clear hb
        refine hK.out _ _ (by exact HS3.out _ (by with_reducible (repeat (first | assumption | exact .rfl_ _ | refine .drew ?_ | refine .alloc ?_ _ | refine .setCell ?_ (by omega) _ | refine .trans ?_ (by assumption))))) (fun _ => ?_)
        clear hK K
        (try simp only [Act.put, List.getElem_toArray, List.getElem_cons_zero, List.getElem_cons_succ, List.setIfInBounds_toArray, List.set_cons_zero, List.set_cons_succ])
        refine wpAnyH_ready (rs := [3]) (by kernel_rfl) (by simp) ?_
        refine AllReadyH.cons (o := ({ dst := some 32, op := .call { callee := .value (.func 11), args := #[.const (.int .i64 2), .const (.int .i64 1), .const (.int .u8 97), .const (.int .u8 98)], argTypes := #[2, 3, 5, 5] }, type := 42, pos := "law.go:21", after := #[⟨2, .chain⟩], guard := none } : Go.Oper)) rfl (fun K hK => ?_) AllReadyH.nil
        go_simp; refine (ltab_any 2 1 97 98 _ ⟨by decide, by decide⟩ ⟨by decide, by decide⟩).mono ?_; rintro e wt2 ⟨At2, ct2, Bt2, dt2, rfl, hrt2, hwt2⟩; have HT2 := Lib.hid (show RdT wt2 _ kt2 from hrt2); clear hrt2; (try (have HBO := Lib.hid (blkX HBO.out (show Ext _ wt2 from (by with_reducible (repeat (first | exact Ext.rfl_ _ | assumption | refine Ext.drew ?_ | refine Ext.drewN ?_ _ | refine Ext.alloc ?_ _ | refine Ext.trans ?_ (by assumption)))))))); (try (go_wp2_with fail))
        refine hK.out _ _ (by exact HS3.out _ (by with_reducible (repeat (first | assumption | exact .rfl_ _ | refine .drew ?_ | refine .alloc ?_ _ | refine .setCell ?_ (by omega) _ | refine .trans ?_ (by assumption))))) (fun _ => ?_)
        clear hK K
        (try simp only [Act.put, List.getElem_toArray, List.getElem_cons_zero, List.getElem_cons_succ, List.setIfInBounds_toArray, List.set_cons_zero, List.set_cons_succ])
        refine wpAnyH_ready (rs := [4]) (by kernel_rfl) (by simp) ?_
        refine AllReadyH.cons (o := ({ dst := some 33, op := .buildSlice 22 2 #[(0, .tmp 31), (1, .tmp 32)], type := 22, pos := "law.go:21", after := #[⟨2, .data⟩, ⟨3, .data⟩], guard := none } : Go.Oper)) rfl (fun K hK => ?_) AllReadyH.nil
        go_simp; (first | refine k_allocD (w0 := W3) ?_ (fun hb => ?_) | refine k_alloc (w0 := W3) ?_ (fun hb => ?_)); exact (by with_reducible (repeat (first | exact Ext.rfl_ _ | assumption | refine Ext.drew ?_ | refine Ext.drewN ?_ _ | refine Ext.alloc ?_ _ | refine Ext.trans ?_ (by assumption)))); (try simp only [World.size_alloc] at hb); have HL2 := Lib.hid (rdT2 (t := kt3) (t' := kt2) hb.1 rfl rfl rfl rfl rfl rfl (HT3.out.ext (by with_reducible (repeat (first | exact Ext.rfl_ _ | assumption | refine Ext.drew ?_ | refine Ext.drewN ?_ _ | refine Ext.alloc ?_ _ | refine Ext.trans ?_ (by assumption))))) (HT2.out.ext (by with_reducible (repeat (first | exact Ext.rfl_ _ | assumption | refine Ext.drew ?_ | refine Ext.drewN ?_ _ | refine Ext.alloc ?_ _ | refine Ext.trans ?_ (by assumption)))))); clear hb
        refine hK.out _ _ (by exact HS3.out _ (by with_reducible (repeat (first | assumption | exact .rfl_ _ | refine .drew ?_ | refine .alloc ?_ _ | refine .setCell ?_ (by omega) _ | refine .trans ?_ (by assumption))))) (fun _ => ?_)
        clear hK K
        (try simp only [Act.put, List.getElem_toArray, List.getElem_cons_zero, List.getElem_cons_succ, List.setIfInBounds_toArray, List.set_cons_zero, List.set_cons_succ])
        refine wpAnyH_ready (rs := [5]) (by kernel_rfl) (by simp) ?_
        refine AllReadyH.cons (o := ({ dst := some 34, op := .build 28 #[(0, .tmp 30), (1, .tmp 33), (2, .const (.int .i64 4)), (5, .const (.int .i64 3))], type := 28, pos := "law.go:21", after := #[⟨1, .data⟩, ⟨4, .data⟩], guard := none } : Go.Oper)) rfl (fun K hK => ?_) AllReadyH.nil
        go_simp
        refine hK.out _ _ (by exact HS3.out _ (by with_reducible (repeat (first | assumption | exact .rfl_ _ | refine .drew ?_ | refine .alloc ?_ _ | refine .setCell ?_ (by omega) _ | refine .trans ?_ (by assumption))))) (fun _ => ?_)
        clear hK K
        (try simp only [Act.put, List.getElem_toArray, List.getElem_cons_zero, List.getElem_cons_succ, List.setIfInBounds_toArray, List.set_cons_zero, List.set_cons_succ])
        refine wpAnyH_ready (rs := [6]) (by kernel_rfl) (by simp) ?_
        refine AllReadyH.cons (o := ({ dst := some 35, op := .call { callee := .value (.func 7), args := #[.tmp 29, .tmp 34], argTypes := #[24, 28] }, type := 33, pos := "law.go:21", after := #[⟨0, .data⟩, ⟨5, .data⟩, ⟨3, .chain⟩], guard := none } : Go.Oper)) rfl (fun K hK => ?_) AllReadyH.nil
        go_simp; refine (kdo2_any A2 c2 _ _ _ (HR3.out.ext (by with_reducible (repeat (first | exact Ext.rfl_ _ | assumption | refine Ext.drew ?_ | refine Ext.drewN ?_ _ | refine Ext.alloc ?_ _ | refine Ext.trans ?_ (by assumption))))) HC2.out (rdN1 (blkX HDB.out (by with_reducible (repeat (first | exact Ext.rfl_ _ | assumption | refine Ext.drew ?_ | refine Ext.drewN ?_ _ | refine Ext.alloc ?_ _ | refine Ext.trans ?_ (by assumption))))) ⟨by decide, by decide⟩) (HL2.out.ext (by with_reducible (repeat (first | exact Ext.rfl_ _ | assumption | refine Ext.drew ?_ | refine Ext.drewN ?_ _ | refine Ext.alloc ?_ _ | refine Ext.trans ?_ (by assumption)))))).mono ?_; rintro e wd ⟨b4, A4, c4, rfl, ho4, hc4, hx⟩; have HO4 := Lib.hid ho4; have HC4 := Lib.hid hc4; clear hc4 ho4; (try (have HBO := Lib.hid (blkX HBO.out (show Ext _ wd from (by with_reducible (repeat (first | exact Ext.rfl_ _ | assumption | refine Ext.drew ?_ | refine Ext.drewN ?_ _ | refine Ext.alloc ?_ _ | refine Ext.trans ?_ (by assumption)))))))); (try (go_wp2_with fail))
        refine hK.out _ _ (by exact HS3.out _ (by with_reducible (repeat (first | assumption | exact .rfl_ _ | refine .drew ?_ | refine .alloc ?_ _ | refine .setCell ?_ (by omega) _ | refine .trans ?_ (by assumption))))) (fun _ => ?_)
        clear hK K
        refine wpAnyH_take (i := 7) (oi := ({ dst := some 28, op := .move (.tmp 35), type := 33, pos := "law.go:21", after := #[⟨6, .data⟩], guard := none } : Go.Oper)) (v := ?v128) rfl (by kernel_rfl) (by kernel_rfl) (by kernel_rfl) (fun _ _ _ h => h) (Or.inl ⟨by rfl, ?hy128⟩) (by assumption) ?rest128
        case hy128 => (intro w hSw; (try dsimp only at hSw); go_simp; (try with_reducible rfl))
        refine wpAnyH_take (i := 8) (oi := ({ dst := some 36, op := .extract (.tmp 28) 0, type := 24, pos := "law.go:21", after := #[⟨7, .data⟩], guard := none } : Go.Oper)) (v := ?v129) rfl (by kernel_rfl) (by kernel_rfl) (by kernel_rfl) (fun _ _ _ h => h) (Or.inl ⟨by rfl, ?hy129⟩) (by assumption) ?rest129
        case hy129 => (intro w hSw; (try dsimp only at hSw); go_simp; (try with_reducible rfl))
        refine wpAnyH_take (i := 9) (oi := ({ dst := some 37, op := .extract (.tmp 28) 1, type := 29, pos := "law.go:21", after := #[⟨7, .data⟩, ⟨11, .gcOnly .lateStores⟩], guard := none } : Go.Oper)) (v := ?v130) rfl (by kernel_rfl) (by kernel_rfl) (by kernel_rfl) (fun _ _ _ h => h) (Or.inl ⟨by rfl, ?hy130⟩) (by assumption) ?rest130
        case hy130 => (intro w hSw; (try dsimp only at hSw); go_simp; (try with_reducible rfl))
        (try simp only [Act.put, List.getElem_toArray, List.getElem_cons_zero, List.getElem_cons_succ, List.setIfInBounds_toArray, List.set_cons_zero, List.set_cons_succ])
        refine wpAnyH_ready (rs := [11]) (by kernel_rfl) (by simp) ?_
        refine AllReadyH.cons (o := ({ dst := none, op := .store 24 (.tmp 3) (.tmp 36), type := 0, pos := "law.go:21", after := #[⟨10, .data⟩, ⟨8, .data⟩, ⟨6, .chain⟩, ⟨0, .phase⟩, ⟨1, .phase⟩, ⟨2, .phase⟩, ⟨3, .phase⟩, ⟨4, .phase⟩, ⟨5, .phase⟩, ⟨6, .phase⟩, ⟨7, .phase⟩, ⟨8, .phase⟩, ⟨9, .textOnly .lateStores⟩, ⟨10, .phase⟩], guard := none } : Go.Oper)) rfl (fun K hK => ?_) AllReadyH.nil
        obtain ⟨o0, o1, o2, o3, o4, p0, p1, p2, p3, p4⟩ := box5 HBO.out (Ext.rfl_ _); go_simp
        refine hK.out _ _ (by exact HS3.out _ (by with_reducible (repeat (first | assumption | exact .rfl_ _ | refine .drew ?_ | refine .alloc ?_ _ | refine .setCell ?_ (by omega) _ | refine .trans ?_ (by assumption))))) (fun _ => ?_)
        clear hK K
        refine wpAnyH_take (i := 12) (oi := ({ dst := some 2, op := .assign (.tmp 37), type := 29, pos := "law.go:21", after := #[⟨9, .data⟩, ⟨11, .chain⟩, ⟨0, .phase⟩, ⟨1, .phase⟩, ⟨2, .phase⟩, ⟨3, .phase⟩, ⟨4, .phase⟩, ⟨5, .phase⟩, ⟨6, .phase⟩, ⟨7, .phase⟩, ⟨8, .phase⟩, ⟨9, .phase⟩, ⟨10, .phase⟩, ⟨11, .phase⟩], guard := none } : Go.Oper)) (v := ?v131) rfl (by kernel_rfl) (by kernel_rfl) (by kernel_rfl) (fun _ _ _ h => h) (Or.inl ⟨by rfl, ?hy131⟩) (by assumption) ?rest131
        case hy131 => (intro w hSw; (try dsimp only at hSw); go_simp; (try with_reducible rfl))
        (try simp only [Act.put, List.getElem_toArray, List.getElem_cons_zero, List.getElem_cons_succ, List.setIfInBounds_toArray, List.set_cons_zero, List.set_cons_succ])
        refine wpAnyH_done (by kernel_rfl) ?_ _
       case' more127 =>
        refine AllReadyH.cons (o := ({ dst := some 32, op := .call { callee := .value (.func 11), args := #[.const (.int .i64 2), .const (.int .i64 1), .const (.int .u8 97), .const (.int .u8 98)], argTypes := #[2, 3, 5, 5] }, type := 42, pos := "law.go:21", after := #[⟨2, .chain⟩], guard := none } : Go.Oper)) rfl (fun K hK => ?_) AllReadyH.nil
        go_simp; refine (ltab_any 2 1 97 98 _ ⟨by decide, by decide⟩ ⟨by decide, by decide⟩).mono ?_; rintro e wt2 ⟨At2, ct2, Bt2, dt2, rfl, hrt2, hwt2⟩; have HT2 := Lib.hid (show RdT wt2 _ kt2 from hrt2); clear hrt2; (try (have HBO := Lib.hid (blkX HBO.out (show Ext _ wt2 from (by with_reducible (repeat (first | exact Ext.rfl_ _ | assumption | refine Ext.drew ?_ | refine Ext.drewN ?_ _ | refine Ext.alloc ?_ _ | refine Ext.trans ?_ (by assumption)))))))); (try (go_wp2_with fail))
        refine hK.out _ _ (by exact HS3.out _ (by with_reducible (repeat (first | assumption | exact .rfl_ _ | refine .drew ?_ | refine .alloc ?_ _ | refine .setCell ?_ (by omega) _ | refine .trans ?_ (by assumption))))) (fun _ => ?_)
        clear hK K
        (try simp only [Act.put, List.getElem_toArray, List.getElem_cons_zero, List.getElem_cons_succ, List.setIfInBounds_toArray, List.set_cons_zero, List.set_cons_succ])
        refine wpAnyH_ready (rs := [1, 4]) (by kernel_rfl) (by simp) ?_
        refine AllReadyH.cons (o := ({ dst := some 30, op := .buildSlice 26 1 #[(0, .const (.int .i64 1))], type := 26, pos := "law.go:21", after := #[], guard := none } : Go.Oper)) rfl (fun K hK => ?one132) ?more132
        case' one132 =>
         go_simp; (first | refine k_allocD (w0 := W3) ?_ (fun hb => ?_) | refine k_alloc (w0 := W3) ?_ (fun hb => ?_)); exact (by with_reducible (repeat (first | exact Ext.rfl_ _ | assumption | refine Ext.drew ?_ | refine Ext.drewN ?_ _ | refine Ext.alloc ?_ _ | refine Ext.trans ?_ (by assumption)))); (try simp only [World.size_alloc] at hb); have HDB := Lib.hid hb.1; clear hb
         refine hK.out _ _ (by exact HS3.out _ (by with_reducible (repeat (first | assumption | exact .rfl_ _ | refine .drew ?_ | refine .alloc ?_ _ | refine .setCell ?_ (by omega) _ | refine .trans ?_ (by assumption))))) (fun _ => ?_)
         clear hK K
         (try simp only [Act.put, List.getElem_toArray, List.getElem_cons_zero, List.getElem_cons_succ, List.setIfInBounds_toArray, List.set_cons_zero, List.set_cons_succ])
         refine wpAnyH_ready (rs := [4]) (by kernel_rfl) (by simp) ?_
         refine AllReadyH.cons (o := ({ dst := some 33, op := .buildSlice 22 2 #[(0, .tmp 31), (1, .tmp 32)], type := 22, pos := "law.go:21", after := #[⟨2, .data⟩, ⟨3, .data⟩], guard := none } : Go.Oper)) rfl (fun K hK => ?_) AllReadyH.nil
         go_simp; (first | refine k_allocD (w0 := W3) ?_ (fun hb => ?_) | refine k_alloc (w0 := W3) ?_ (fun hb => ?_)); exact (by with_reducible (repeat (first | exact Ext.rfl_ _ | assumption | refine Ext.drew ?_ | refine Ext.drewN ?_ _ | refine Ext.alloc ?_ _ | refine Ext.trans ?_ (by assumption)))); (try simp only [World.size_alloc] at hb); have HL2 := Lib.hid (rdT2 (t := kt3) (t' := kt2) hb.1 rfl rfl rfl rfl rfl rfl (HT3.out.ext (by with_reducible (repeat (first | exact Ext.rfl_ _ | assumption | refine Ext.drew ?_ | refine Ext.drewN ?_ _ | refine Ext.alloc ?_ _ | refine Ext.trans ?_ (by assumption))))) (HT2.out.ext (by with_reducible (repeat (first | exact Ext.rfl_ _ | assumption | refine Ext.drew ?_ | refine Ext.drewN ?_ _ | refine Ext.alloc ?_ _ | refine Ext.trans ?_ (by assumption)))))); clear hb
         refine hK.out _ _ (by exact HS3.out _ (by with_reducible (repeat (first | assumption | exact .rfl_ _ | refine .drew ?_ | refine .alloc ?_ _ | refine .setCell ?_ (by omega) _ | refine .trans ?_ (by assumption))))) (fun _ => ?_)
         clear hK K
         (try simp only [Act.put, List.getElem_toArray, List.getElem_cons_zero, List.getElem_cons_succ, List.setIfInBounds_toArray, List.set_cons_zero, List.set_cons_succ])
         refine wpAnyH_ready (rs := [5]) (by kernel_rfl) (by simp) ?_
         refine AllReadyH.cons (o := ({ dst := some 34, op := .build 28 #[(0, .tmp 30), (1, .tmp 33), (2, .const (.int .i64 4)), (5, .const (.int .i64 3))], type := 28, pos := "law.go:21", after := #[⟨1, .data⟩, ⟨4, .data⟩], guard := none } : Go.Oper)) rfl (fun K hK => ?_) AllReadyH.nil
         go_simp
         refine hK.out _ _ (by exact HS3.out _ (by with_reducible (repeat (first | assumption | exact .rfl_ _ | refine .drew ?_ | refine .alloc ?_ _ | refine .setCell ?_ (by omega) _ | refine .trans ?_ (by assumption))))) (fun _ => ?_)
         clear hK K
         (try simp only [Act.put, List.getElem_toArray, List.getElem_cons_zero, List.getElem_cons_succ, List.setIfInBounds_toArray, List.set_cons_zero, List.set_cons_succ])
         refine wpAnyH_ready (rs := [6]) (by kernel_rfl) (by simp) ?_
         refine AllReadyH.cons (o := ({ dst := some 35, op := .call { callee := .value (.func 7), args := #[.tmp 29, .tmp 34], argTypes := #[24, 28] }, type := 33, pos := "law.go:21", after := #[⟨0, .data⟩, ⟨5, .data⟩, ⟨3, .chain⟩], guard := none } : Go.Oper)) rfl (fun K hK => ?_) AllReadyH.nil
         go_simp; refine (kdo2_any A2 c2 _ _ _ (HR3.out.ext (by with_reducible (repeat (first | exact Ext.rfl_ _ | assumption | refine Ext.drew ?_ | refine Ext.drewN ?_ _ | refine Ext.alloc ?_ _ | refine Ext.trans ?_ (by assumption))))) HC2.out (rdN1 (blkX HDB.out (by with_reducible (repeat (first | exact Ext.rfl_ _ | assumption | refine Ext.drew ?_ | refine Ext.drewN ?_ _ | refine Ext.alloc ?_ _ | refine Ext.trans ?_ (by assumption))))) ⟨by decide, by decide⟩) (HL2.out.ext (by with_reducible (repeat (first | exact Ext.rfl_ _ | assumption | refine Ext.drew ?_ | refine Ext.drewN ?_ _ | refine Ext.alloc ?_ _ | refine Ext.trans ?_ (by assumption)))))).mono ?_; rintro e wd ⟨b4, A4, c4, rfl, ho4, hc4, hx⟩; have HO4 := Lib.hid ho4; have HC4 := Lib.hid hc4; clear hc4 ho4; (try (have HBO := Lib.hid (blkX HBO.out (show Ext _ wd from (by with_reducible (repeat (first | exact Ext.rfl_ _ | assumption | refine Ext.drew ?_ | refine Ext.drewN ?_ _ | refine Ext.alloc ?_ _ | refine Ext.trans ?_ (by assumption)))))))); (try (go_wp2_with fail))
         refine hK.out _ _ (by exact HS3.out _ (by with_reducible (repeat (first | assumption | exact .rfl_ _ | refine .drew ?_ | refine .alloc ?_ _ | refine .setCell ?_ (by omega) _ | refine .trans ?_ (by assumption))))) (fun _ => ?_)
         clear hK K
         refine wpAnyH_take (i := 7) (oi := ({ dst := some 28, op := .move (.tmp 35), type := 33, pos := "law.go:21", after := #[⟨6, .data⟩], guard := none } : Go.Oper)) (v := ?v133) rfl (by kernel_rfl) (by kernel_rfl) (by kernel_rfl) (fun _ _ _ h => h) (Or.inl ⟨by rfl, ?hy133⟩) (by assumption) ?rest133
         case hy133 => (intro w hSw; (try dsimp only at hSw); go_simp; (try with_reducible rfl))
         refine wpAnyH_take (i := 8) (oi := ({ dst := some 36, op := .extract (.tmp 28) 0, type := 24, pos := "law.go:21", after := #[⟨7, .data⟩], guard := none } : Go.Oper)) (v := ?v134) rfl (by kernel_rfl) (by kernel_rfl) (by kernel_rfl) (fun _ _ _ h => h) (Or.inl ⟨by rfl, ?hy134⟩) (by assumption) ?rest134
         case hy134 => (intro w hSw; (try dsimp only at hSw); go_simp; (try with_reducible rfl))
         refine wpAnyH_take (i := 9) (oi := ({ dst := some 37, op := .extract (.tmp 28) 1, type := 29, pos := "law.go:21", after := #[⟨7, .data⟩, ⟨11, .gcOnly .lateStores⟩], guard := none } : Go.Oper)) (v := ?v135) rfl (by kernel_rfl) (by kernel_rfl) (by kernel_rfl) (fun _ _ _ h => h) (Or.inl ⟨by rfl, ?hy135⟩) (by assumption) ?rest135
         case hy135 => (intro w hSw; (try dsimp only at hSw); go_simp; (try with_reducible rfl))
         (try simp only [Act.put, List.getElem_toArray, List.getElem_cons_zero, List.getElem_cons_succ, List.setIfInBounds_toArray, List.set_cons_zero, List.set_cons_succ])
         refine wpAnyH_ready (rs := [11]) (by kernel_rfl) (by simp) ?_
         refine AllReadyH.cons (o := ({ dst := none, op := .store 24 (.tmp 3) (.tmp 36), type := 0, pos := "law.go:21", after := #[⟨10, .data⟩, ⟨8, .data⟩, ⟨6, .chain⟩, ⟨0, .phase⟩, ⟨1, .phase⟩, ⟨2, .phase⟩, ⟨3, .phase⟩, ⟨4, .phase⟩, ⟨5, .phase⟩, ⟨6, .phase⟩, ⟨7, .phase⟩, ⟨8, .phase⟩, ⟨9, .textOnly .lateStores⟩, ⟨10, .phase⟩], guard := none } : Go.Oper)) rfl (fun K hK => ?_) AllReadyH.nil
         obtain ⟨o0, o1, o2, o3, o4, p0, p1, p2, p3, p4⟩ := box5 HBO.out (Ext.rfl_ _); go_simp
         refine hK.out _ _ (by exact HS3.out _ (by with_reducible (repeat (first | assumption | exact .rfl_ _ | refine .drew ?_ | refine .alloc ?_ _ | refine .setCell ?_ (by omega) _ | refine .trans ?_ (by assumption))))) (fun _ => ?_)
         clear hK K
         refine wpAnyH_take (i := 12) (oi := ({ dst := some 2, op := .assign (.tmp 37), type := 29, pos := "law.go:21", after := #[⟨9, .data⟩, ⟨11, .chain⟩, ⟨0, .phase⟩, ⟨1, .phase⟩, ⟨2, .phase⟩, ⟨3, .phase⟩, ⟨4, .phase⟩, ⟨5, .phase⟩, ⟨6, .phase⟩, ⟨7, .phase⟩, ⟨8, .phase⟩, ⟨9, .phase⟩, ⟨10, .phase⟩, ⟨11, .phase⟩], guard := none } : Go.Oper)) (v := ?v136) rfl (by kernel_rfl) (by kernel_rfl) (by kernel_rfl) (fun _ _ _ h => h) (Or.inl ⟨by rfl, ?hy136⟩) (by assumption) ?rest136
         case hy136 => (intro w hSw; (try dsimp only at hSw); go_simp; (try with_reducible rfl))
         (try simp only [Act.put, List.getElem_toArray, List.getElem_cons_zero, List.getElem_cons_succ, List.setIfInBounds_toArray, List.set_cons_zero, List.set_cons_succ])
         refine wpAnyH_done (by kernel_rfl) ?_ _
        case' more132 =>
         refine AllReadyH.cons (o := ({ dst := some 33, op := .buildSlice 22 2 #[(0, .tmp 31), (1, .tmp 32)], type := 22, pos := "law.go:21", after := #[⟨2, .data⟩, ⟨3, .data⟩], guard := none } : Go.Oper)) rfl (fun K hK => ?_) AllReadyH.nil
         go_simp; (first | refine k_allocD (w0 := W3) ?_ (fun hb => ?_) | refine k_alloc (w0 := W3) ?_ (fun hb => ?_)); exact (by with_reducible (repeat (first | exact Ext.rfl_ _ | assumption | refine Ext.drew ?_ | refine Ext.drewN ?_ _ | refine Ext.alloc ?_ _ | refine Ext.trans ?_ (by assumption)))); (try simp only [World.size_alloc] at hb); have HL2 := Lib.hid (rdT2 (t := kt3) (t' := kt2) hb.1 rfl rfl rfl rfl rfl rfl (HT3.out.ext (by with_reducible (repeat (first | exact Ext.rfl_ _ | assumption | refine Ext.drew ?_ | refine Ext.drewN ?_ _ | refine Ext.alloc ?_ _ | refine Ext.trans ?_ (by assumption))))) (HT2.out.ext (by with_reducible (repeat (first | exact Ext.rfl_ _ | assumption | refine Ext.drew ?_ | refine Ext.drewN ?_ _ | refine Ext.alloc ?_ _ | refine Ext.trans ?_ (by assumption)))))); clear hb
         refine hK.out _ _ (by exact HS3.out _ (by with_reducible (repeat (first | assumption | exact .rfl_ _ | refine .drew ?_ | refine .alloc ?_ _ | refine .setCell ?_ (by omega) _ | refine .trans ?_ (by assumption))))) (fun _ => ?_)
         clear hK K
         (try simp only [Act.put, List.getElem_toArray, List.getElem_cons_zero, List.getElem_cons_succ, List.setIfInBounds_toArray, List.set_cons_zero, List.set_cons_succ])
         refine wpAnyH_ready (rs := [1]) (by kernel_rfl) (by simp) ?_
         refine AllReadyH.cons (o := ({ dst := some 30, op := .buildSlice 26 1 #[(0, .const (.int .i64 1))], type := 26, pos := "law.go:21", after := #[], guard := none } : Go.Oper)) rfl (fun K hK => ?_) AllReadyH.nil
         go_simp; (first | refine k_allocD (w0 := W3) ?_ (fun hb => ?_) | refine k_alloc (w0 := W3) ?_ (fun hb => ?_)); exact (by with_reducible (repeat (first | exact Ext.rfl_ _ | assumption | refine Ext.drew ?_ | refine Ext.drewN ?_ _ | refine Ext.alloc ?_ _ | refine Ext.trans ?_ (by assumption)))); (try simp only [World.size_alloc] at hb); have HDB := Lib.hid hb.1; clear hb
         refine hK.out _ _ (by exact HS3.out _ (by with_reducible (repeat (first | assumption | exact .rfl_ _ | refine .drew ?_ | refine .alloc ?_ _ | refine .setCell ?_ (by omega) _ | refine .trans ?_ (by assumption))))) (fun _ => ?_)
         clear hK K
         (try simp only [Act.put, List.getElem_toArray, List.getElem_cons_zero, List.getElem_cons_succ, List.setIfInBounds_toArray, List.set_cons_zero, List.set_cons_succ])
         refine wpAnyH_ready (rs := [5]) (by kernel_rfl) (by simp) ?_
         refine AllReadyH.cons (o := ({ dst := some 34, op := .build 28 #[(0, .tmp 30), (1, .tmp 33), (2, .const (.int .i64 4)), (5, .const (.int .i64 3))], type := 28, pos := "law.go:21", after := #[⟨1, .data⟩, ⟨4, .data⟩], guard := none } : Go.Oper)) rfl (fun K hK => ?_) AllReadyH.nil
         go_simp
         refine hK.out _ _ (by exact HS3.out _ (by with_reducible (repeat (first | assumption | exact .rfl_ _ | refine .drew ?_ | refine .alloc ?_ _ | refine .setCell ?_ (by omega) _ | refine .trans ?_ (by assumption))))) (fun _ => ?_)
         clear hK K
         (try simp only [Act.put, List.getElem_toArray, List.getElem_cons_zero, List.getElem_cons_succ, List.setIfInBounds_toArray, List.set_cons_zero, List.set_cons_succ])
         refine wpAnyH_ready (rs := [6]) (by kernel_rfl) (by simp) ?_
         refine AllReadyH.cons (o := ({ dst := some 35, op := .call { callee := .value (.func 7), args := #[.tmp 29, .tmp 34], argTypes := #[24, 28] }, type := 33, pos := "law.go:21", after := #[⟨0, .data⟩, ⟨5, .data⟩, ⟨3, .chain⟩], guard := none } : Go.Oper)) rfl (fun K hK => ?_) AllReadyH.nil
         go_simp; refine (kdo2_any A2 c2 _ _ _ (HR3.out.ext (by with_reducible (repeat (first | exact Ext.rfl_ _ | assumption | refine Ext.drew ?_ | refine Ext.drewN ?_ _ | refine Ext.alloc ?_ _ | refine Ext.trans ?_ (by assumption))))) HC2.out (rdN1 (blkX HDB.out (by with_reducible (repeat (first | exact Ext.rfl_ _ | assumption | refine Ext.drew ?_ | refine Ext.drewN ?_ _ | refine Ext.alloc ?_ _ | refine Ext.trans ?_ (by assumption))))) ⟨by decide, by decide⟩) (HL2.out.ext (by with_reducible (repeat (first | exact Ext.rfl_ _ | assumption | refine Ext.drew ?_ | refine Ext.drewN ?_ _ | refine Ext.alloc ?_ _ | refine Ext.trans ?_ (by assumption)))))).mono ?_; rintro e wd ⟨b4, A4, c4, rfl, ho4, hc4, hx⟩; have HO4 := Lib.hid ho4; have HC4 := Lib.hid hc4; clear hc4 ho4; (try (have HBO := Lib.hid (blkX HBO.out (show Ext _ wd from (by with_reducible (repeat (first | exact Ext.rfl_ _ | assumption | refine Ext.drew ?_ | refine Ext.drewN ?_ _ | refine Ext.alloc ?_ _ | refine Ext.trans ?_ (by assumption)))))))); (try (go_wp2_with fail))
         refine hK.out _ _ (by exact HS3.out _ (by with_reducible (repeat (first | assumption | exact .rfl_ _ | refine .drew ?_ | refine .alloc ?_ _ | refine .setCell ?_ (by omega) _ | refine .trans ?_ (by assumption))))) (fun _ => ?_)
         clear hK K
         refine wpAnyH_take (i := 7) (oi := ({ dst := some 28, op := .move (.tmp 35), type := 33, pos := "law.go:21", after := #[⟨6, .data⟩], guard := none } : Go.Oper)) (v := ?v137) rfl (by kernel_rfl) (by kernel_rfl) (by kernel_rfl) (fun _ _ _ h => h) (Or.inl ⟨by rfl, ?hy137⟩) (by assumption) ?rest137
         case hy137 => (intro w hSw; (try dsimp only at hSw); go_simp; (try with_reducible rfl))
         refine wpAnyH_take (i := 8) (oi := ({ dst := some 36, op := .extract (.tmp 28) 0, type := 24, pos := "law.go:21", after := #[⟨7, .data⟩], guard := none } : Go.Oper)) (v := ?v138) rfl (by kernel_rfl) (by kernel_rfl) (by kernel_rfl) (fun _ _ _ h => h) (Or.inl ⟨by rfl, ?hy138⟩) (by assumption) ?rest138
         case hy138 => (intro w hSw; (try dsimp only at hSw); go_simp; (try with_reducible rfl))
         refine wpAnyH_take (i := 9) (oi := ({ dst := some 37, op := .extract (.tmp 28) 1, type := 29, pos := "law.go:21", after := #[⟨7, .data⟩, ⟨11, .gcOnly .lateStores⟩], guard := none } : Go.Oper)) (v := ?v139) rfl (by kernel_rfl) (by kernel_rfl) (by kernel_rfl) (fun _ _ _ h => h) (Or.inl ⟨by rfl, ?hy139⟩) (by assumption) ?rest139
         case hy139 => (intro w hSw; (try dsimp only at hSw); go_simp; (try with_reducible rfl))
         (try simp only [Act.put, List.getElem_toArray, List.getElem_cons_zero, List.getElem_cons_succ, List.setIfInBounds_toArray, List.set_cons_zero, List.set_cons_succ])
         refine wpAnyH_ready (rs := [11]) (by kernel_rfl) (by simp) ?_
         refine AllReadyH.cons (o := ({ dst := none, op := .store 24 (.tmp 3) (.tmp 36), type := 0, pos := "law.go:21", after := #[⟨10, .data⟩, ⟨8, .data⟩, ⟨6, .chain⟩, ⟨0, .phase⟩, ⟨1, .phase⟩, ⟨2, .phase⟩, ⟨3, .phase⟩, ⟨4, .phase⟩, ⟨5, .phase⟩, ⟨6, .phase⟩, ⟨7, .phase⟩, ⟨8, .phase⟩, ⟨9, .textOnly .lateStores⟩, ⟨10, .phase⟩], guard := none } : Go.Oper)) rfl (fun K hK => ?_) AllReadyH.nil
         obtain ⟨o0, o1, o2, o3, o4, p0, p1, p2, p3, p4⟩ := box5 HBO.out (Ext.rfl_ _); go_simp
         refine hK.out _ _ (by exact HS3.out _ (by with_reducible (repeat (first | assumption | exact .rfl_ _ | refine .drew ?_ | refine .alloc ?_ _ | refine .setCell ?_ (by omega) _ | refine .trans ?_ (by assumption))))) (fun _ => ?_)
         clear hK K
         refine wpAnyH_take (i := 12) (oi := ({ dst := some 2, op := .assign (.tmp 37), type := 29, pos := "law.go:21", after := #[⟨9, .data⟩, ⟨11, .chain⟩, ⟨0, .phase⟩, ⟨1, .phase⟩, ⟨2, .phase⟩, ⟨3, .phase⟩, ⟨4, .phase⟩, ⟨5, .phase⟩, ⟨6, .phase⟩, ⟨7, .phase⟩, ⟨8, .phase⟩, ⟨9, .phase⟩, ⟨10, .phase⟩, ⟨11, .phase⟩], guard := none } : Go.Oper)) (v := ?v140) rfl (by kernel_rfl) (by kernel_rfl) (by kernel_rfl) (fun _ _ _ h => h) (Or.inl ⟨by rfl, ?hy140⟩) (by assumption) ?rest140
         case hy140 => (intro w hSw; (try dsimp only at hSw); go_simp; (try with_reducible rfl))
         (try simp only [Act.put, List.getElem_toArray, List.getElem_cons_zero, List.getElem_cons_succ, List.setIfInBounds_toArray, List.set_cons_zero, List.set_cons_succ])
         refine wpAnyH_done (by kernel_rfl) ?_ _
    all_goals
      go_wp2
      go_meet
      first
        | (have hal := ALAST.out; exact ⟨_, A4, c4, rfl, rfl, Ext.size (show Ext W3 wd from (by with_reducible (repeat (first | exact Ext.rfl_ _ | assumption | refine Ext.drew ?_ | refine Ext.drewN ?_ _ | refine Ext.alloc ?_ _ | refine Ext.trans ?_ (by assumption))))), HC4.out, heap_alloc_new wd _, (by with_reducible (repeat (first | exact Ext.rfl_ _ | assumption | refine Ext.drew ?_ | refine Ext.drewN ?_ _ | refine Ext.alloc ?_ _ | refine Ext.trans ?_ (by assumption)))), (ownT_rd (HO4.out.ext (Ext.alloc (Ext.rfl_ _) _)) (by decide)).2⟩)
        | exact ⟨_, A4, c4, rfl, rfl, zo, HC4.out, set5 HBO.out _ _ _ _ _, extSet5 (show Ext W3 wd from (by with_reducible (repeat (first | exact Ext.rfl_ _ | assumption | refine Ext.drew ?_ | refine Ext.drewN ?_ _ | refine Ext.alloc ?_ _ | refine Ext.trans ?_ (by assumption))))) zo _ _ _ _ _, (ownT_rd (OwnT.other HO4.out HBO.out (by decide) (by decide) noU8 (grown5 _ _ _ _ _ _ _)) (by decide)).2⟩
  case rest =>
    obtain ⟨o, A4, c4, rfl, rfl, zo, hc4, hbo, X4, hr4⟩ := hcut
    have HBO4 := Lib.hid hbo
    have HR4 := Lib.hid hr4
    have HX4 := Lib.hid (X3.out.trans X4)
    have HC4 := Lib.hid hc4
    obtain ⟨gb, ob, Aq, nq, cq, Br, nr, cr, tq, rfl, htq, ⟨y0, y1, y2, y3, y4⟩, _⟩ := hr4.at_ 0 (by omega)
    have htq' : tq = kt2 := by simpa [kv2] using htq.symm
    subst htq'
    have y0' : wc.cell? ⟨gb, ob, none⟩ = some (.int .i64 2) := by simpa [kt2] using y0
    obtain ⟨o0, o1, o2, o3, o4, _⟩ := box5 hbo (Ext.rfl_ wc)
    clear hbo hr4 hc4 X4 y0 y1 y2 y3 y4 htq HS3 HBA HR3
    go_upto_region 7 with (fail)
    have HS4 := Lib.hid (show ∀ W, Ext wc W → (W.cell? ⟨o, 0, none⟩ = some (.int .i64 4) ∧ W.cell? ⟨o, 1, none⟩ = some (.int .i64 0) ∧ W.cell? ⟨o, 2, none⟩ = some (.int .i64 0) ∧ W.cell? ⟨o, 3, none⟩ = some (.int .i64 3) ∧ W.cell? ⟨o, 4, none⟩ = some (.slice (some ⟨gb, ob, none⟩) 2 c4)) from fun W hW => by
      obtain ⟨a0, a1, a2, a3, a4, _⟩ := box5 HBO4.out hW
      exact ⟨a0, a1, a2, a3, a4⟩)
    obtain ⟨W5, hW5⟩ : ∃ W, W = wc := ⟨_, rfl⟩
    rw [← hW5] at HS4 HR4 HX4 HBO4 ⊢
    clear o0 o1 o2 o3 o4 y0'
    clear hW5
    go_cut [4, 5] from 54 (fun p e wx => e = .int .i64 9 ∧ Ext W5 wx)
    case first =>
      go_wp2
      refine wp_region_held_drew (S := (fun W => W.cell? ⟨o, 0, none⟩ = some (.int .i64 4) ∧ W.cell? ⟨o, 1, none⟩ = some (.int .i64 0) ∧ W.cell? ⟨o, 2, none⟩ = some (.int .i64 0) ∧ W.cell? ⟨o, 3, none⟩ = some (.int .i64 3) ∧ W.cell? ⟨o, 4, none⟩ = some (.slice (some ⟨gb, ob, none⟩) 2 c4))) (by kernel_rfl) (by (try dsimp only); exact HS4.out _ (by with_reducible (repeat (first | assumption | exact .rfl_ _ | refine .drew ?_ | refine .alloc ?_ _ | refine .setCell ?_ (by omega) _ | refine .trans ?_ (by assumption))))) (fun hHeld => ?_)
      refine wpAnyH_take (i := 0) (oi := ({ dst := some 55, op := .load 24 (.tmp 3), type := 24, pos := "law.go:25", after := #[], guard := none } : Go.Oper)) (v := ?v141) rfl (by kernel_rfl) (by kernel_rfl) (by kernel_rfl) (fun _ _ _ h => h) (Or.inl ⟨by rfl, ?hy141⟩) (by assumption) ?rest141
      case hy141 => (intro w hSw; (try dsimp only at hSw); go_simp; (try with_reducible rfl))
      (try simp only [Act.put, List.getElem_toArray, List.getElem_cons_zero, List.getElem_cons_succ, List.setIfInBounds_toArray, List.set_cons_zero, List.set_cons_succ])
      refine wpAnyH_ready (rs := [1, 8]) (by kernel_rfl) (by simp) ?_
      refine AllReadyH.cons (o := ({ dst := some 56, op := .call { callee := .value (.func 11), args := #[.const (.int .i64 4), .const (.int .i64 1), .const (.int .u8 98), .const (.int .u8 100)], argTypes := #[2, 3, 5, 5] }, type := 42, pos := "law.go:25", after := #[], guard := none } : Go.Oper)) rfl (fun K hK => ?one142) ?more142
      case' one142 =>
        go_simp; refine (ltab_any 4 1 98 100 _ ⟨by decide, by decide⟩ ⟨by decide, by decide⟩).mono ?_; rintro e wt3 ⟨At3, ct3, Bt3, dt3, rfl, hrt3, hwt3⟩; have HT3 := Lib.hid (show RdT wt3 _ kt4 from hrt3); clear hrt3; (try (have HBO := Lib.hid (blkX HBO.out (show Ext _ wt3 from (by with_reducible (repeat (first | exact Ext.rfl_ _ | assumption | refine Ext.drew ?_ | refine Ext.drewN ?_ _ | refine Ext.alloc ?_ _ | refine Ext.trans ?_ (by assumption)))))))); (try (go_wp2_with fail))
        refine hK.out _ _ (by (try dsimp only); exact HS4.out _ (by with_reducible (repeat (first | assumption | exact .rfl_ _ | refine .drew ?_ | refine .alloc ?_ _ | refine .setCell ?_ (by omega) _ | refine .trans ?_ (by assumption))))) (fun hHeld => ?_)
        clear hK K
        (try simp only [Act.put, List.getElem_toArray, List.getElem_cons_zero, List.getElem_cons_succ, List.setIfInBounds_toArray, List.set_cons_zero, List.set_cons_succ])
        refine wpAnyH_ready (rs := [2, 8]) (by kernel_rfl) (by simp) ?_
        refine AllReadyH.cons (o := ({ dst := some 57, op := .buildSlice 22 1 #[(0, .tmp 56)], type := 22, pos := "law.go:25", after := #[⟨1, .data⟩], guard := none } : Go.Oper)) rfl (fun K hK => ?one143) ?more143
        case' one143 =>
          go_simp; (first | refine k_allocD (w0 := W5) ?_ (fun hb => ?_) | refine k_alloc (w0 := W5) ?_ (fun hb => ?_)); exact (by with_reducible (repeat (first | exact Ext.rfl_ _ | assumption | refine Ext.drew ?_ | refine Ext.drewN ?_ _ | refine Ext.alloc ?_ _ | refine Ext.trans ?_ (by assumption)))); (try simp only [World.size_alloc] at hb); have HL2 := Lib.hid (rdT1 (t := kt4) hb.1 rfl rfl rfl (HT3.out.ext (by with_reducible (repeat (first | exact Ext.rfl_ _ | assumption | refine Ext.drew ?_ | refine Ext.drewN ?_ _ | refine Ext.alloc ?_ _ | refine Ext.trans ?_ (by assumption)))))); clear hb
          refine hK.out _ _ (by (try dsimp only); exact HS4.out _ (by with_reducible (repeat (first | assumption | exact .rfl_ _ | refine .drew ?_ | refine .alloc ?_ _ | refine .setCell ?_ (by omega) _ | refine .trans ?_ (by assumption))))) (fun hHeld => ?_)
          clear hK K
          (try simp only [Act.put, List.getElem_toArray, List.getElem_cons_zero, List.getElem_cons_succ, List.setIfInBounds_toArray, List.set_cons_zero, List.set_cons_succ])
          refine wpAnyH_ready (rs := [3, 8]) (by kernel_rfl) (by simp) ?_
          refine AllReadyH.cons (o := ({ dst := some 58, op := .build 28 #[(1, .tmp 57), (2, .const (.int .i64 5)), (5, .const (.int .i64 3))], type := 28, pos := "law.go:25", after := #[⟨2, .data⟩], guard := none } : Go.Oper)) rfl (fun K hK => ?one144) ?more144
          case' one144 =>
            go_simp
            refine hK.out _ _ (by (try dsimp only); exact HS4.out _ (by with_reducible (repeat (first | assumption | exact .rfl_ _ | refine .drew ?_ | refine .alloc ?_ _ | refine .setCell ?_ (by omega) _ | refine .trans ?_ (by assumption))))) (fun hHeld => ?_)
            clear hK K
            (try simp only [Act.put, List.getElem_toArray, List.getElem_cons_zero, List.getElem_cons_succ, List.setIfInBounds_toArray, List.set_cons_zero, List.set_cons_succ])
            refine wpAnyH_ready (rs := [4, 8]) (by kernel_rfl) (by simp) ?_
            refine AllReadyH.cons (o := ({ dst := some 59, op := .call { callee := .value (.func 7), args := #[.tmp 55, .tmp 58], argTypes := #[24, 28] }, type := 33, pos := "law.go:25", after := #[⟨0, .data⟩, ⟨3, .data⟩, ⟨1, .chain⟩], guard := none } : Go.Oper)) rfl (fun K hK => ?one145) ?more145
            case' one145 =>
              go_simp; refine (do_any _ _ kv2 ke3 _ ⟨_, _, _, rfl, HR4.out.ext (by with_reducible (repeat (first | exact Ext.rfl_ _ | assumption | refine Ext.drew ?_ | refine Ext.drewN ?_ _ | refine Ext.alloc ?_ _ | refine Ext.trans ?_ (by assumption)))), HC4.out⟩ ⟨none, 0, 0, _, _, _, rfl, rdN_nil _ _, Nat.le_refl _, HL2.out.ext (by with_reducible (repeat (first | exact Ext.rfl_ _ | assumption | refine Ext.drew ?_ | refine Ext.drewN ?_ _ | refine Ext.alloc ?_ _ | refine Ext.trans ?_ (by assumption)))), Nat.le_refl _⟩ (by decide) (by decide) (by decide)).mono ?_; rintro e wd ⟨u4, z4, err4, rfl, hu, hd, hx⟩; obtain ⟨rfl, rfl⟩ := kdo3 hd; obtain ⟨b6, A6, n6, c6, hv4, _, _⟩ := hu; have hv4' : u4 = .agg #[.int .i64 0, .int .i64 0, .int .i64 0, .int .i64 0, .slice A6 n6 c6] := hv4; subst hv4'; clear hd hv4; (try (have HBO := Lib.hid (blkX HBO.out (show Ext _ wd from (by with_reducible (repeat (first | exact Ext.rfl_ _ | assumption | refine Ext.drew ?_ | refine Ext.drewN ?_ _ | refine Ext.alloc ?_ _ | refine Ext.trans ?_ (by assumption)))))))); (try (go_wp2_with fail))
              refine hK.out _ _ (by (try dsimp only); exact HS4.out _ (by with_reducible (repeat (first | assumption | exact .rfl_ _ | refine .drew ?_ | refine .alloc ?_ _ | refine .setCell ?_ (by omega) _ | refine .trans ?_ (by assumption))))) (fun hHeld => ?_)
              clear hK K
              (try simp only [Act.put, List.getElem_toArray, List.getElem_cons_zero, List.getElem_cons_succ, List.setIfInBounds_toArray, List.set_cons_zero, List.set_cons_succ])
              refine wpAnyH_take (i := 5) (oi := ({ dst := some 54, op := .move (.tmp 59), type := 33, pos := "law.go:25", after := #[⟨4, .data⟩], guard := none } : Go.Oper)) (v := ?v146) rfl (by kernel_rfl) (by kernel_rfl) (by kernel_rfl) (fun _ _ _ h => h) (Or.inl ⟨by rfl, ?hy146⟩) (by assumption) ?rest146
              case hy146 => (intro w hSw; (try dsimp only at hSw); go_simp; (try with_reducible rfl))
              (try simp only [Act.put, List.getElem_toArray, List.getElem_cons_zero, List.getElem_cons_succ, List.setIfInBounds_toArray, List.set_cons_zero, List.set_cons_succ])
              refine wpAnyH_take (i := 6) (oi := ({ dst := some 60, op := .extract (.tmp 54) 0, type := 24, pos := "law.go:25", after := #[⟨5, .data⟩], guard := none } : Go.Oper)) (v := ?v147) rfl (by kernel_rfl) (by kernel_rfl) (by kernel_rfl) (fun _ _ _ h => h) (Or.inl ⟨by rfl, ?hy147⟩) (by assumption) ?rest147
              case hy147 => (intro w hSw; (try dsimp only at hSw); go_simp; (try with_reducible rfl))
              (try simp only [Act.put, List.getElem_toArray, List.getElem_cons_zero, List.getElem_cons_succ, List.setIfInBounds_toArray, List.set_cons_zero, List.set_cons_succ])
              refine wpAnyH_take (i := 7) (oi := ({ dst := some 61, op := .extract (.tmp 54) 1, type := 29, pos := "law.go:25", after := #[⟨5, .data⟩, ⟨9, .gcOnly .lateStores⟩], guard := none } : Go.Oper)) (v := ?v148) rfl (by kernel_rfl) (by kernel_rfl) (by kernel_rfl) (fun _ _ _ h => h) (Or.inl ⟨by rfl, ?hy148⟩) (by assumption) ?rest148
              case hy148 => (intro w hSw; (try dsimp only at hSw); go_simp; (try with_reducible rfl))
              (try simp only [Act.put, List.getElem_toArray, List.getElem_cons_zero, List.getElem_cons_succ, List.setIfInBounds_toArray, List.set_cons_zero, List.set_cons_succ])
              refine wpAnyH_ready (rs := [8]) (by kernel_rfl) (by simp) ?_
              refine AllReadyH.cons (o := ({ dst := some 4, op := .alloc 24, type := 0, pos := "law.go:25", after := #[], guard := none } : Go.Oper)) rfl (fun K hK => ?_) AllReadyH.nil
              go_simp; (first | refine k_allocD (w0 := W5) ?_ (fun hb => ?_) | refine k_alloc (w0 := W5) ?_ (fun hb => ?_)); exact (by with_reducible (repeat (first | exact Ext.rfl_ _ | assumption | refine Ext.drew ?_ | refine Ext.drewN ?_ _ | refine Ext.alloc ?_ _ | refine Ext.trans ?_ (by assumption)))); (try simp only [World.size_alloc] at hb); have HBO := Lib.hid hb.1; have zo2 := hb.2; clear hb
              refine hK.out _ _ (by (try dsimp only); exact HS4.out _ (by with_reducible (repeat (first | assumption | exact .rfl_ _ | refine .drew ?_ | refine .alloc ?_ _ | refine .setCell ?_ (by omega) _ | refine .trans ?_ (by assumption))))) (fun hHeld => ?_)
              clear hK K
              (try simp only [Act.put, List.getElem_toArray, List.getElem_cons_zero, List.getElem_cons_succ, List.setIfInBounds_toArray, List.set_cons_zero, List.set_cons_succ])
              refine wpAnyH_ready (rs := [9]) (by kernel_rfl) (by simp) ?_
              refine AllReadyH.cons (o := ({ dst := none, op := .store 24 (.tmp 4) (.tmp 60), type := 0, pos := "law.go:25", after := #[⟨8, .data⟩, ⟨6, .data⟩, ⟨4, .chain⟩, ⟨0, .phase⟩, ⟨1, .phase⟩, ⟨2, .phase⟩, ⟨3, .phase⟩, ⟨4, .phase⟩, ⟨5, .phase⟩, ⟨6, .phase⟩, ⟨7, .textOnly .lateStores⟩, ⟨8, .phase⟩], guard := none } : Go.Oper)) rfl (fun K hK => ?_) AllReadyH.nil
              obtain ⟨o0, o1, o2, o3, o4, p0, p1, p2, p3, p4⟩ := box5 HBO.out (Ext.rfl_ _); go_simp
              refine hK.out _ _ (by (try dsimp only); exact HS4.out _ (by with_reducible (repeat (first | assumption | exact .rfl_ _ | refine .drew ?_ | refine .alloc ?_ _ | refine .setCell ?_ (by omega) _ | refine .trans ?_ (by assumption))))) (fun hHeld => ?_)
              clear hK K
              (try simp only [Act.put, List.getElem_toArray, List.getElem_cons_zero, List.getElem_cons_succ, List.setIfInBounds_toArray, List.set_cons_zero, List.set_cons_succ])
              refine wpAnyH_take (i := 10) (oi := ({ dst := some 5, op := .assign (.tmp 61), type := 29, pos := "law.go:25", after := #[⟨7, .data⟩, ⟨9, .chain⟩, ⟨0, .phase⟩, ⟨1, .phase⟩, ⟨2, .phase⟩, ⟨3, .phase⟩, ⟨4, .phase⟩, ⟨5, .phase⟩, ⟨6, .phase⟩, ⟨7, .phase⟩, ⟨8, .phase⟩, ⟨9, .phase⟩], guard := none } : Go.Oper)) (v := ?v149) rfl (by kernel_rfl) (by kernel_rfl) (by kernel_rfl) (fun _ _ _ h => h) (Or.inl ⟨by rfl, ?hy149⟩) (by assumption) ?rest149
              case hy149 => (intro w hSw; (try dsimp only at hSw); go_simp; (try with_reducible rfl))
              (try simp only [Act.put, List.getElem_toArray, List.getElem_cons_zero, List.getElem_cons_succ, List.setIfInBounds_toArray, List.set_cons_zero, List.set_cons_succ])
              refine wpAnyH_done (by kernel_rfl) ?_ _
            case' more145 =>
              refine AllReadyH.cons (o := ({ dst := some 4, op := .alloc 24, type := 0, pos := "law.go:25", after := #[], guard := none } : Go.Oper)) rfl (fun K hK => ?_) AllReadyH.nil
              go_simp; (first | refine k_allocD (w0 := W5) ?_ (fun hb => ?_) | refine k_alloc (w0 := W5) ?_ (fun hb => ?_)); exact (by with_reducible (repeat (first | exact Ext.rfl_ _ | assumption | refine Ext.drew ?_ | refine Ext.drewN ?_ _ | refine Ext.alloc ?_ _ | refine Ext.trans ?_ (by assumption)))); (try simp only [World.size_alloc] at hb); have HBO := Lib.hid hb.1; have zo2 := hb.2; clear hb
              refine hK.out _ _ (by (try dsimp only); exact HS4.out _ (by with_reducible (repeat (first | assumption | exact .rfl_ _ | refine .drew ?_ | refine .alloc ?_ _ | refine .setCell ?_ (by omega) _ | refine .trans ?_ (by assumption))))) (fun hHeld => ?_)
              clear hK K
              (try simp only [Act.put, List.getElem_toArray, List.getElem_cons_zero, List.getElem_cons_succ, List.setIfInBounds_toArray, List.set_cons_zero, List.set_cons_succ])
              refine wpAnyH_ready (rs := [4]) (by kernel_rfl) (by simp) ?_
              refine AllReadyH.cons (o := ({ dst := some 59, op := .call { callee := .value (.func 7), args := #[.tmp 55, .tmp 58], argTypes := #[24, 28] }, type := 33, pos := "law.go:25", after := #[⟨0, .data⟩, ⟨3, .data⟩, ⟨1, .chain⟩], guard := none } : Go.Oper)) rfl (fun K hK => ?_) AllReadyH.nil
              go_simp; refine (do_any _ _ kv2 ke3 _ ⟨_, _, _, rfl, HR4.out.ext (by with_reducible (repeat (first | exact Ext.rfl_ _ | assumption | refine Ext.drew ?_ | refine Ext.drewN ?_ _ | refine Ext.alloc ?_ _ | refine Ext.trans ?_ (by assumption)))), HC4.out⟩ ⟨none, 0, 0, _, _, _, rfl, rdN_nil _ _, Nat.le_refl _, HL2.out.ext (by with_reducible (repeat (first | exact Ext.rfl_ _ | assumption | refine Ext.drew ?_ | refine Ext.drewN ?_ _ | refine Ext.alloc ?_ _ | refine Ext.trans ?_ (by assumption)))), Nat.le_refl _⟩ (by decide) (by decide) (by decide)).mono ?_; rintro e wd ⟨u4, z4, err4, rfl, hu, hd, hx⟩; obtain ⟨rfl, rfl⟩ := kdo3 hd; obtain ⟨b6, A6, n6, c6, hv4, _, _⟩ := hu; have hv4' : u4 = .agg #[.int .i64 0, .int .i64 0, .int .i64 0, .int .i64 0, .slice A6 n6 c6] := hv4; subst hv4'; clear hd hv4; (try (have HBO := Lib.hid (blkX HBO.out (show Ext _ wd from (by with_reducible (repeat (first | exact Ext.rfl_ _ | assumption | refine Ext.drew ?_ | refine Ext.drewN ?_ _ | refine Ext.alloc ?_ _ | refine Ext.trans ?_ (by assumption)))))))); (try (go_wp2_with fail))
              refine hK.out _ _ (by (try dsimp only); exact HS4.out _ (by with_reducible (repeat (first | assumption | exact .rfl_ _ | refine .drew ?_ | refine .alloc ?_ _ | refine .setCell ?_ (by omega) _ | refine .trans ?_ (by assumption))))) (fun hHeld => ?_)
              clear hK K
              (try simp only [Act.put, List.getElem_toArray, List.getElem_cons_zero, List.getElem_cons_succ, List.setIfInBounds_toArray, List.set_cons_zero, List.set_cons_succ])
              refine wpAnyH_take (i := 5) (oi := ({ dst := some 54, op := .move (.tmp 59), type := 33, pos := "law.go:25", after := #[⟨4, .data⟩], guard := none } : Go.Oper)) (v := ?v150) rfl (by kernel_rfl) (by kernel_rfl) (by kernel_rfl) (fun _ _ _ h => h) (Or.inl ⟨by rfl, ?hy150⟩) (by assumption) ?rest150
              case hy150 => (intro w hSw; (try dsimp only at hSw); go_simp; (try with_reducible rfl))
              (try simp only [Act.put, List.getElem_toArray, List.getElem_cons_zero, List.getElem_cons_succ, List.setIfInBounds_toArray, List.set_cons_zero, List.set_cons_succ])
              refine wpAnyH_take (i := 6) (oi := ({ dst := some 60, op := .extract (.tmp 54) 0, type := 24, pos := "law.go:25", after := #[⟨5, .data⟩], guard := none } : Go.Oper)) (v := ?v151) rfl (by kernel_rfl) (by kernel_rfl) (by kernel_rfl) (fun _ _ _ h => h) (Or.inl ⟨by rfl, ?hy151⟩) (by assumption) ?rest151
              case hy151 => (intro w hSw; (try dsimp only at hSw); go_simp; (try with_reducible rfl))
              (try simp only [Act.put, List.getElem_toArray, List.getElem_cons_zero, List.getElem_cons_succ, List.setIfInBounds_toArray, List.set_cons_zero, List.set_cons_succ])
              refine wpAnyH_take (i := 7) (oi := ({ dst := some 61, op := .extract (.tmp 54) 1, type := 29, pos := "law.go:25", after := #[⟨5, .data⟩, ⟨9, .gcOnly .lateStores⟩], guard := none } : Go.Oper)) (v := ?v152) rfl (by kernel_rfl) (by kernel_rfl) (by kernel_rfl) (fun _ _ _ h => h) (Or.inl ⟨by rfl, ?hy152⟩) (by assumption) ?rest152
              case hy152 => (intro w hSw; (try dsimp only at hSw); go_simp; (try with_reducible rfl))
              (try simp only [Act.put, List.getElem_toArray, List.getElem_cons_zero, List.getElem_cons_succ, List.setIfInBounds_toArray, List.set_cons_zero, List.set_cons_succ])
              refine wpAnyH_ready (rs := [9]) (by kernel_rfl) (by simp) ?_
              refine AllReadyH.cons (o := ({ dst := none, op := .store 24 (.tmp 4) (.tmp 60), type := 0, pos := "law.go:25", after := #[⟨8, .data⟩, ⟨6, .data⟩, ⟨4, .chain⟩, ⟨0, .phase⟩, ⟨1, .phase⟩, ⟨2, .phase⟩, ⟨3, .phase⟩, ⟨4, .phase⟩, ⟨5, .phase⟩, ⟨6, .phase⟩, ⟨7, .textOnly .lateStores⟩, ⟨8, .phase⟩], guard := none } : Go.Oper)) rfl (fun K hK => ?_) AllReadyH.nil
              obtain ⟨o0, o1, o2, o3, o4, p0, p1, p2, p3, p4⟩ := box5 HBO.out (Ext.rfl_ _); go_simp
              refine hK.out _ _ (by (try dsimp only); exact HS4.out _ (by with_reducible (repeat (first | assumption | exact .rfl_ _ | refine .drew ?_ | refine .alloc ?_ _ | refine .setCell ?_ (by omega) _ | refine .trans ?_ (by assumption))))) (fun hHeld => ?_)
              clear hK K
              (try simp only [Act.put, List.getElem_toArray, List.getElem_cons_zero, List.getElem_cons_succ, List.setIfInBounds_toArray, List.set_cons_zero, List.set_cons_succ])
              refine wpAnyH_take (i := 10) (oi := ({ dst := some 5, op := .assign (.tmp 61), type := 29, pos := "law.go:25", after := #[⟨7, .data⟩, ⟨9, .chain⟩, ⟨0, .phase⟩, ⟨1, .phase⟩, ⟨2, .phase⟩, ⟨3, .phase⟩, ⟨4, .phase⟩, ⟨5, .phase⟩, ⟨6, .phase⟩, ⟨7, .phase⟩, ⟨8, .phase⟩, ⟨9, .phase⟩], guard := none } : Go.Oper)) (v := ?v153) rfl (by kernel_rfl) (by kernel_rfl) (by kernel_rfl) (fun _ _ _ h => h) (Or.inl ⟨by rfl, ?hy153⟩) (by assumption) ?rest153
              case hy153 => (intro w hSw; (try dsimp only at hSw); go_simp; (try with_reducible rfl))
              (try simp only [Act.put, List.getElem_toArray, List.getElem_cons_zero, List.getElem_cons_succ, List.setIfInBounds_toArray, List.set_cons_zero, List.set_cons_succ])
              refine wpAnyH_done (by kernel_rfl) ?_ _
          case' more144 =>
            refine AllReadyH.cons (o := ({ dst := some 4, op := .alloc 24, type := 0, pos := "law.go:25", after := #[], guard := none } : Go.Oper)) rfl (fun K hK => ?_) AllReadyH.nil
            go_simp; (first | refine k_allocD (w0 := W5) ?_ (fun hb => ?_) | refine k_alloc (w0 := W5) ?_ (fun hb => ?_)); exact (by with_reducible (repeat (first | exact Ext.rfl_ _ | assumption | refine Ext.drew ?_ | refine Ext.drewN ?_ _ | refine Ext.alloc ?_ _ | refine Ext.trans ?_ (by assumption)))); (try simp only [World.size_alloc] at hb); have HBO := Lib.hid hb.1; have zo2 := hb.2; clear hb
            refine hK.out _ _ (by (try dsimp only); exact HS4.out _ (by with_reducible (repeat (first | assumption | exact .rfl_ _ | refine .drew ?_ | refine .alloc ?_ _ | refine .setCell ?_ (by omega) _ | refine .trans ?_ (by assumption))))) (fun hHeld => ?_)
            clear hK K
            (try simp only [Act.put, List.getElem_toArray, List.getElem_cons_zero, List.getElem_cons_succ, List.setIfInBounds_toArray, List.set_cons_zero, List.set_cons_succ])
            refine wpAnyH_ready (rs := [3]) (by kernel_rfl) (by simp) ?_
            refine AllReadyH.cons (o := ({ dst := some 58, op := .build 28 #[(1, .tmp 57), (2, .const (.int .i64 5)), (5, .const (.int .i64 3))], type := 28, pos := "law.go:25", after := #[⟨2, .data⟩], guard := none } : Go.Oper)) rfl (fun K hK => ?_) AllReadyH.nil
            go_simp
            refine hK.out _ _ (by (try dsimp only); exact HS4.out _ (by with_reducible (repeat (first | assumption | exact .rfl_ _ | refine .drew ?_ | refine .alloc ?_ _ | refine .setCell ?_ (by omega) _ | refine .trans ?_ (by assumption))))) (fun hHeld => ?_)
            clear hK K
            (try simp only [Act.put, List.getElem_toArray, List.getElem_cons_zero, List.getElem_cons_succ, List.setIfInBounds_toArray, List.set_cons_zero, List.set_cons_succ])
            refine wpAnyH_ready (rs := [4]) (by kernel_rfl) (by simp) ?_
            refine AllReadyH.cons (o := ({ dst := some 59, op := .call { callee := .value (.func 7), args := #[.tmp 55, .tmp 58], argTypes := #[24, 28] }, type := 33, pos := "law.go:25", after := #[⟨0, .data⟩, ⟨3, .data⟩, ⟨1, .chain⟩], guard := none } : Go.Oper)) rfl (fun K hK => ?_) AllReadyH.nil
            go_simp; refine (do_any _ _ kv2 ke3 _ ⟨_, _, _, rfl, HR4.out.ext (by with_reducible (repeat (first | exact Ext.rfl_ _ | assumption | refine Ext.drew ?_ | refine Ext.drewN ?_ _ | refine Ext.alloc ?_ _ | refine Ext.trans ?_ (by assumption)))), HC4.out⟩ ⟨none, 0, 0, _, _, _, rfl, rdN_nil _ _, Nat.le_refl _, HL2.out.ext (by with_reducible (repeat (first | exact Ext.rfl_ _ | assumption | refine Ext.drew ?_ | refine Ext.drewN ?_ _ | refine Ext.alloc ?_ _ | refine Ext.trans ?_ (by assumption)))), Nat.le_refl _⟩ (by decide) (by decide) (by decide)).mono ?_; rintro e wd ⟨u4, z4, err4, rfl, hu, hd, hx⟩; obtain ⟨rfl, rfl⟩ := kdo3 hd; obtain ⟨b6, A6, n6, c6, hv4, _, _⟩ := hu; have hv4' : u4 = .agg #[.int .i64 0, .int .i64 0, .int .i64 0, .int .i64 0, .slice A6 n6 c6] := hv4; subst hv4'; clear hd hv4; (try (have HBO := Lib.hid (blkX HBO.out (show Ext _ wd from (by with_reducible (repeat (first | exact Ext.rfl_ _ | assumption | refine Ext.drew ?_ | refine Ext.drewN ?_ _ | refine Ext.alloc ?_ _ | refine Ext.trans ?_ (by assumption)))))))); (try (go_wp2_with fail))
            refine hK.out _ _ (by (try dsimp only); exact HS4.out _ (by with_reducible (repeat (first | assumption | exact .rfl_ _ | refine .drew ?_ | refine .alloc ?_ _ | refine .setCell ?_ (by omega) _ | refine .trans ?_ (by assumption))))) (fun hHeld => ?_)
            clear hK K
            (try simp only [Act.put, List.getElem_toArray, List.getElem_cons_zero, List.getElem_cons_succ, List.setIfInBounds_toArray, List.set_cons_zero, List.set_cons_succ])
            refine wpAnyH_take (i := 5) (oi := ({ dst := some 54, op := .move (.tmp 59), type := 33, pos := "law.go:25", after := #[⟨4, .data⟩], guard := none } : Go.Oper)) (v := ?v154) rfl (by kernel_rfl) (by kernel_rfl) (by kernel_rfl) (fun _ _ _ h => h) (Or.inl ⟨by rfl, ?hy154⟩) (by assumption) ?rest154
            case hy154 => (intro w hSw; (try dsimp only at hSw); go_simp; (try with_reducible rfl))
            (try simp only [Act.put, List.getElem_toArray, List.getElem_cons_zero, List.getElem_cons_succ, List.setIfInBounds_toArray, List.set_cons_zero, List.set_cons_succ])
            refine wpAnyH_take (i := 6) (oi := ({ dst := some 60, op := .extract (.tmp 54) 0, type := 24, pos := "law.go:25", after := #[⟨5, .data⟩], guard := none } : Go.Oper)) (v := ?v155) rfl (by kernel_rfl) (by kernel_rfl) (by kernel_rfl) (fun _ _ _ h => h) (Or.inl ⟨by rfl, ?hy155⟩) (by assumption) ?rest155
            case hy155 => (intro w hSw; (try dsimp only at hSw); go_simp; (try with_reducible rfl))
            (try simp only [Act.put, List.getElem_toArray, List.getElem_cons_zero, List.getElem_cons_succ, List.setIfInBounds_toArray, List.set_cons_zero, List.set_cons_succ])
            refine wpAnyH_take (i := 7) (oi := ({ dst := some 61, op := .extract (.tmp 54) 1, type := 29, pos := "law.go:25", after := #[⟨5, .data⟩, ⟨9, .gcOnly .lateStores⟩], guard := none } : Go.Oper)) (v := ?v156) rfl (by kernel_rfl) (by kernel_rfl) (by kernel_rfl) (fun _ _ _ h => h) (Or.inl ⟨by rfl, ?hy156⟩) (by assumption) ?rest156
            case hy156 => (intro w hSw; (try dsimp only at hSw); go_simp; (try with_reducible rfl))
            (try simp only [Act.put, List.getElem_toArray, List.getElem_cons_zero, List.getElem_cons_succ, List.setIfInBounds_toArray, List.set_cons_zero, List.set_cons_succ])
            refine wpAnyH_ready (rs := [9]) (by kernel_rfl) (by simp) ?_
            refine AllReadyH.cons (o := ({ dst := none, op := .store 24 (.tmp 4) (.tmp 60), type := 0, pos := "law.go:25", after := #[⟨8, .data⟩, ⟨6, .data⟩, ⟨4, .chain⟩, ⟨0, .phase⟩, ⟨1, .phase⟩, ⟨2, .phase⟩, ⟨3, .phase⟩, ⟨4, .phase⟩, ⟨5, .phase⟩, ⟨6, .phase⟩, ⟨7, .textOnly .lateStores⟩, ⟨8, .phase⟩], guard := none } : Go.Oper)) rfl (fun K hK => ?_) AllReadyH.nil
            obtain ⟨o0, o1, o2, o3, o4, p0, p1, p2, p3, p4⟩ := box5 HBO.out (Ext.rfl_ _); go_simp
            refine hK.out _ _ (by (try dsimp only); exact HS4.out _ (by with_reducible (repeat (first | assumption | exact .rfl_ _ | refine .drew ?_ | refine .alloc ?_ _ | refine .setCell ?_ (by omega) _ | refine .trans ?_ (by assumption))))) (fun hHeld => ?_)
            clear hK K
            (try simp only [Act.put, List.getElem_toArray, List.getElem_cons_zero, List.getElem_cons_succ, List.setIfInBounds_toArray, List.set_cons_zero, List.set_cons_succ])
            refine wpAnyH_take (i := 10) (oi := ({ dst := some 5, op := .assign (.tmp 61), type := 29, pos := "law.go:25", after := #[⟨7, .data⟩, ⟨9, .chain⟩, ⟨0, .phase⟩, ⟨1, .phase⟩, ⟨2, .phase⟩, ⟨3, .phase⟩, ⟨4, .phase⟩, ⟨5, .phase⟩, ⟨6, .phase⟩, ⟨7, .phase⟩, ⟨8, .phase⟩, ⟨9, .phase⟩], guard := none } : Go.Oper)) (v := ?v157) rfl (by kernel_rfl) (by kernel_rfl) (by kernel_rfl) (fun _ _ _ h => h) (Or.inl ⟨by rfl, ?hy157⟩) (by assumption) ?rest157
            case hy157 => (intro w hSw; (try dsimp only at hSw); go_simp; (try with_reducible rfl))
            (try simp only [Act.put, List.getElem_toArray, List.getElem_cons_zero, List.getElem_cons_succ, List.setIfInBounds_toArray, List.set_cons_zero, List.set_cons_succ])
            refine wpAnyH_done (by kernel_rfl) ?_ _
        case' more143 =>
          refine AllReadyH.cons (o := ({ dst := some 4, op := .alloc 24, type := 0, pos := "law.go:25", after := #[], guard := none } : Go.Oper)) rfl (fun K hK => ?_) AllReadyH.nil
          go_simp; (first | refine k_allocD (w0 := W5) ?_ (fun hb => ?_) | refine k_alloc (w0 := W5) ?_ (fun hb => ?_)); exact (by with_reducible (repeat (first | exact Ext.rfl_ _ | assumption | refine Ext.drew ?_ | refine Ext.drewN ?_ _ | refine Ext.alloc ?_ _ | refine Ext.trans ?_ (by assumption)))); (try simp only [World.size_alloc] at hb); have HBO := Lib.hid hb.1; have zo2 := hb.2; clear hb
          refine hK.out _ _ (by (try dsimp only); exact HS4.out _ (by with_reducible (repeat (first | assumption | exact .rfl_ _ | refine .drew ?_ | refine .alloc ?_ _ | refine .setCell ?_ (by omega) _ | refine .trans ?_ (by assumption))))) (fun hHeld => ?_)
          clear hK K
          (try simp only [Act.put, List.getElem_toArray, List.getElem_cons_zero, List.getElem_cons_succ, List.setIfInBounds_toArray, List.set_cons_zero, List.set_cons_succ])
          refine wpAnyH_ready (rs := [2]) (by kernel_rfl) (by simp) ?_
          refine AllReadyH.cons (o := ({ dst := some 57, op := .buildSlice 22 1 #[(0, .tmp 56)], type := 22, pos := "law.go:25", after := #[⟨1, .data⟩], guard := none } : Go.Oper)) rfl (fun K hK => ?_) AllReadyH.nil
          go_simp; (first | refine k_allocD (w0 := W5) ?_ (fun hb => ?_) | refine k_alloc (w0 := W5) ?_ (fun hb => ?_)); exact (by with_reducible (repeat (first | exact Ext.rfl_ _ | assumption | refine Ext.drew ?_ | refine Ext.drewN ?_ _ | refine Ext.alloc ?_ _ | refine Ext.trans ?_ (by assumption)))); (try simp only [World.size_alloc] at hb); have HL2 := Lib.hid (rdT1 (t := kt4) hb.1 rfl rfl rfl (HT3.out.ext (by with_reducible (repeat (first | exact Ext.rfl_ _ | assumption | refine Ext.drew ?_ | refine Ext.drewN ?_ _ | refine Ext.alloc ?_ _ | refine Ext.trans ?_ (by assumption)))))); clear hb
          refine hK.out _ _ (by (try dsimp only); exact HS4.out _ (by with_reducible (repeat (first | assumption | exact .rfl_ _ | refine .drew ?_ | refine .alloc ?_ _ | refine .setCell ?_ (by omega) _ | refine .trans ?_ (by assumption))))) (fun hHeld => ?_)
          clear hK K
          (try simp only [Act.put, List.getElem_toArray, List.getElem_cons_zero, List.getElem_cons_succ, List.setIfInBounds_toArray, List.set_cons_zero, List.set_cons_succ])
          refine wpAnyH_ready (rs := [3]) (by kernel_rfl) (by simp) ?_
          refine AllReadyH.cons (o := ({ dst := some 58, op := .build 28 #[(1, .tmp 57), (2, .const (.int .i64 5)), (5, .const (.int .i64 3))], type := 28, pos := "law.go:25", after := #[⟨2, .data⟩], guard := none } : Go.Oper)) rfl (fun K hK => ?_) AllReadyH.nil
          go_simp
          refine hK.out _ _ (by (try dsimp only); exact HS4.out _ (by with_reducible (repeat (first | assumption | exact .rfl_ _ | refine .drew ?_ | refine .alloc ?_ _ | refine .setCell ?_ (by omega) _ | refine .trans ?_ (by assumption))))) (fun hHeld => ?_)
          clear hK K
          (try simp only [Act.put, List.getElem_toArray, List.getElem_cons_zero, List.getElem_cons_succ, List.setIfInBounds_toArray, List.set_cons_zero, List.set_cons_succ])
          refine wpAnyH_ready (rs := [4]) (by kernel_rfl) (by simp) ?_
          refine AllReadyH.cons (o := ({ dst := some 59, op := .call { callee := .value (.func 7), args := #[.tmp 55, .tmp 58], argTypes := #[24, 28] }, type := 33, pos := "law.go:25", after := #[⟨0, .data⟩, ⟨3, .data⟩, ⟨1, .chain⟩], guard := none } : Go.Oper)) rfl (fun K hK => ?_) AllReadyH.nil
          go_simp; refine (do_any _ _ kv2 ke3 _ ⟨_, _, _, rfl, HR4.out.ext (by with_reducible (repeat (first | exact Ext.rfl_ _ | assumption | refine Ext.drew ?_ | refine Ext.drewN ?_ _ | refine Ext.alloc ?_ _ | refine Ext.trans ?_ (by assumption)))), HC4.out⟩ ⟨none, 0, 0, _, _, _, rfl, rdN_nil _ _, Nat.le_refl _, HL2.out.ext (by with_reducible (repeat (first | exact Ext.rfl_ _ | assumption | refine Ext.drew ?_ | refine Ext.drewN ?_ _ | refine Ext.alloc ?_ _ | refine Ext.trans ?_ (by assumption)))), Nat.le_refl _⟩ (by decide) (by decide) (by decide)).mono ?_; rintro e wd ⟨u4, z4, err4, rfl, hu, hd, hx⟩; obtain ⟨rfl, rfl⟩ := kdo3 hd; obtain ⟨b6, A6, n6, c6, hv4, _, _⟩ := hu; have hv4' : u4 = .agg #[.int .i64 0, .int .i64 0, .int .i64 0, .int .i64 0, .slice A6 n6 c6] := hv4; subst hv4'; clear hd hv4; (try (have HBO := Lib.hid (blkX HBO.out (show Ext _ wd from (by with_reducible (repeat (first | exact Ext.rfl_ _ | assumption | refine Ext.drew ?_ | refine Ext.drewN ?_ _ | refine Ext.alloc ?_ _ | refine Ext.trans ?_ (by assumption)))))))); (try (go_wp2_with fail))
          refine hK.out _ _ (by (try dsimp only); exact HS4.out _ (by with_reducible (repeat (first | assumption | exact .rfl_ _ | refine .drew ?_ | refine .alloc ?_ _ | refine .setCell ?_ (by omega) _ | refine .trans ?_ (by assumption))))) (fun hHeld => ?_)
          clear hK K
          (try simp only [Act.put, List.getElem_toArray, List.getElem_cons_zero, List.getElem_cons_succ, List.setIfInBounds_toArray, List.set_cons_zero, List.set_cons_succ])
          refine wpAnyH_take (i := 5) (oi := ({ dst := some 54, op := .move (.tmp 59), type := 33, pos := "law.go:25", after := #[⟨4, .data⟩], guard := none } : Go.Oper)) (v := ?v158) rfl (by kernel_rfl) (by kernel_rfl) (by kernel_rfl) (fun _ _ _ h => h) (Or.inl ⟨by rfl, ?hy158⟩) (by assumption) ?rest158
          case hy158 => (intro w hSw; (try dsimp only at hSw); go_simp; (try with_reducible rfl))
          (try simp only [Act.put, List.getElem_toArray, List.getElem_cons_zero, List.getElem_cons_succ, List.setIfInBounds_toArray, List.set_cons_zero, List.set_cons_succ])
          refine wpAnyH_take (i := 6) (oi := ({ dst := some 60, op := .extract (.tmp 54) 0, type := 24, pos := "law.go:25", after := #[⟨5, .data⟩], guard := none } : Go.Oper)) (v := ?v159) rfl (by kernel_rfl) (by kernel_rfl) (by kernel_rfl) (fun _ _ _ h => h) (Or.inl ⟨by rfl, ?hy159⟩) (by assumption) ?rest159
          case hy159 => (intro w hSw; (try dsimp only at hSw); go_simp; (try with_reducible rfl))
          (try simp only [Act.put, List.getElem_toArray, List.getElem_cons_zero, List.getElem_cons_succ, List.setIfInBounds_toArray, List.set_cons_zero, List.set_cons_succ])
          refine wpAnyH_take (i := 7) (oi := ({ dst := some 61, op := .extract (.tmp 54) 1, type := 29, pos := "law.go:25", after := #[⟨5, .data⟩, ⟨9, .gcOnly .lateStores⟩], guard := none } : Go.Oper)) (v := ?v160) rfl (by kernel_rfl) (by kernel_rfl) (by kernel_rfl) (fun _ _ _ h => h) (Or.inl ⟨by rfl, ?hy160⟩) (by assumption) ?rest160
          case hy160 => (intro w hSw; (try dsimp only at hSw); go_simp; (try with_reducible rfl))
          (try simp only [Act.put, List.getElem_toArray, List.getElem_cons_zero, List.getElem_cons_succ, List.setIfInBounds_toArray, List.set_cons_zero, List.set_cons_succ])
          refine wpAnyH_ready (rs := [9]) (by kernel_rfl) (by simp) ?_
          refine AllReadyH.cons (o := ({ dst := none, op := .store 24 (.tmp 4) (.tmp 60), type := 0, pos := "law.go:25", after := #[⟨8, .data⟩, ⟨6, .data⟩, ⟨4, .chain⟩, ⟨0, .phase⟩, ⟨1, .phase⟩, ⟨2, .phase⟩, ⟨3, .phase⟩, ⟨4, .phase⟩, ⟨5, .phase⟩, ⟨6, .phase⟩, ⟨7, .textOnly .lateStores⟩, ⟨8, .phase⟩], guard := none } : Go.Oper)) rfl (fun K hK => ?_) AllReadyH.nil
          obtain ⟨o0, o1, o2, o3, o4, p0, p1, p2, p3, p4⟩ := box5 HBO.out (Ext.rfl_ _); go_simp
          refine hK.out _ _ (by (try dsimp only); exact HS4.out _ (by with_reducible (repeat (first | assumption | exact .rfl_ _ | refine .drew ?_ | refine .alloc ?_ _ | refine .setCell ?_ (by omega) _ | refine .trans ?_ (by assumption))))) (fun hHeld => ?_)
          clear hK K
          (try simp only [Act.put, List.getElem_toArray, List.getElem_cons_zero, List.getElem_cons_succ, List.setIfInBounds_toArray, List.set_cons_zero, List.set_cons_succ])
          refine wpAnyH_take (i := 10) (oi := ({ dst := some 5, op := .assign (.tmp 61), type := 29, pos := "law.go:25", after := #[⟨7, .data⟩, ⟨9, .chain⟩, ⟨0, .phase⟩, ⟨1, .phase⟩, ⟨2, .phase⟩, ⟨3, .phase⟩, ⟨4, .phase⟩, ⟨5, .phase⟩, ⟨6, .phase⟩, ⟨7, .phase⟩, ⟨8, .phase⟩, ⟨9, .phase⟩], guard := none } : Go.Oper)) (v := ?v161) rfl (by kernel_rfl) (by kernel_rfl) (by kernel_rfl) (fun _ _ _ h => h) (Or.inl ⟨by rfl, ?hy161⟩) (by assumption) ?rest161
          case hy161 => (intro w hSw; (try dsimp only at hSw); go_simp; (try with_reducible rfl))
          (try simp only [Act.put, List.getElem_toArray, List.getElem_cons_zero, List.getElem_cons_succ, List.setIfInBounds_toArray, List.set_cons_zero, List.set_cons_succ])
          refine wpAnyH_done (by kernel_rfl) ?_ _
      case' more142 =>
        refine AllReadyH.cons (o := ({ dst := some 4, op := .alloc 24, type := 0, pos := "law.go:25", after := #[], guard := none } : Go.Oper)) rfl (fun K hK => ?_) AllReadyH.nil
        go_simp; (first | refine k_allocD (w0 := W5) ?_ (fun hb => ?_) | refine k_alloc (w0 := W5) ?_ (fun hb => ?_)); exact (by with_reducible (repeat (first | exact Ext.rfl_ _ | assumption | refine Ext.drew ?_ | refine Ext.drewN ?_ _ | refine Ext.alloc ?_ _ | refine Ext.trans ?_ (by assumption)))); (try simp only [World.size_alloc] at hb); have HBO := Lib.hid hb.1; have zo2 := hb.2; clear hb
        refine hK.out _ _ (by (try dsimp only); exact HS4.out _ (by with_reducible (repeat (first | assumption | exact .rfl_ _ | refine .drew ?_ | refine .alloc ?_ _ | refine .setCell ?_ (by omega) _ | refine .trans ?_ (by assumption))))) (fun hHeld => ?_)
        clear hK K
        (try simp only [Act.put, List.getElem_toArray, List.getElem_cons_zero, List.getElem_cons_succ, List.setIfInBounds_toArray, List.set_cons_zero, List.set_cons_succ])
        refine wpAnyH_ready (rs := [1]) (by kernel_rfl) (by simp) ?_
        refine AllReadyH.cons (o := ({ dst := some 56, op := .call { callee := .value (.func 11), args := #[.const (.int .i64 4), .const (.int .i64 1), .const (.int .u8 98), .const (.int .u8 100)], argTypes := #[2, 3, 5, 5] }, type := 42, pos := "law.go:25", after := #[], guard := none } : Go.Oper)) rfl (fun K hK => ?_) AllReadyH.nil
        go_simp; refine (ltab_any 4 1 98 100 _ ⟨by decide, by decide⟩ ⟨by decide, by decide⟩).mono ?_; rintro e wt3 ⟨At3, ct3, Bt3, dt3, rfl, hrt3, hwt3⟩; have HT3 := Lib.hid (show RdT wt3 _ kt4 from hrt3); clear hrt3; (try (have HBO := Lib.hid (blkX HBO.out (show Ext _ wt3 from (by with_reducible (repeat (first | exact Ext.rfl_ _ | assumption | refine Ext.drew ?_ | refine Ext.drewN ?_ _ | refine Ext.alloc ?_ _ | refine Ext.trans ?_ (by assumption)))))))); (try (go_wp2_with fail))
        refine hK.out _ _ (by (try dsimp only); exact HS4.out _ (by with_reducible (repeat (first | assumption | exact .rfl_ _ | refine .drew ?_ | refine .alloc ?_ _ | refine .setCell ?_ (by omega) _ | refine .trans ?_ (by assumption))))) (fun hHeld => ?_)
        clear hK K
        (try simp only [Act.put, List.getElem_toArray, List.getElem_cons_zero, List.getElem_cons_succ, List.setIfInBounds_toArray, List.set_cons_zero, List.set_cons_succ])
        refine wpAnyH_ready (rs := [2]) (by kernel_rfl) (by simp) ?_
        refine AllReadyH.cons (o := ({ dst := some 57, op := .buildSlice 22 1 #[(0, .tmp 56)], type := 22, pos := "law.go:25", after := #[⟨1, .data⟩], guard := none } : Go.Oper)) rfl (fun K hK => ?_) AllReadyH.nil
        go_simp; (first | refine k_allocD (w0 := W5) ?_ (fun hb => ?_) | refine k_alloc (w0 := W5) ?_ (fun hb => ?_)); exact (by with_reducible (repeat (first | exact Ext.rfl_ _ | assumption | refine Ext.drew ?_ | refine Ext.drewN ?_ _ | refine Ext.alloc ?_ _ | refine Ext.trans ?_ (by assumption)))); (try simp only [World.size_alloc] at hb); have HL2 := Lib.hid (rdT1 (t := kt4) hb.1 rfl rfl rfl (HT3.out.ext (by with_reducible (repeat (first | exact Ext.rfl_ _ | assumption | refine Ext.drew ?_ | refine Ext.drewN ?_ _ | refine Ext.alloc ?_ _ | refine Ext.trans ?_ (by assumption)))))); clear hb
        refine hK.out _ _ (by (try dsimp only); exact HS4.out _ (by with_reducible (repeat (first | assumption | exact .rfl_ _ | refine .drew ?_ | refine .alloc ?_ _ | refine .setCell ?_ (by omega) _ | refine .trans ?_ (by assumption))))) (fun hHeld => ?_)
        clear hK K
        (try simp only [Act.put, List.getElem_toArray, List.getElem_cons_zero, List.getElem_cons_succ, List.setIfInBounds_toArray, List.set_cons_zero, List.set_cons_succ])
        refine wpAnyH_ready (rs := [3]) (by kernel_rfl) (by simp) ?_
        refine AllReadyH.cons (o := ({ dst := some 58, op := .build 28 #[(1, .tmp 57), (2, .const (.int .i64 5)), (5, .const (.int .i64 3))], type := 28, pos := "law.go:25", after := #[⟨2, .data⟩], guard := none } : Go.Oper)) rfl (fun K hK => ?_) AllReadyH.nil
        go_simp
        refine hK.out _ _ (by (try dsimp only); exact HS4.out _ (by with_reducible (repeat (first | assumption | exact .rfl_ _ | refine .drew ?_ | refine .alloc ?_ _ | refine .setCell ?_ (by omega) _ | refine .trans ?_ (by assumption))))) (fun hHeld => ?_)
        clear hK K
        (try simp only [Act.put, List.getElem_toArray, List.getElem_cons_zero, List.getElem_cons_succ, List.setIfInBounds_toArray, List.set_cons_zero, List.set_cons_succ])
        refine wpAnyH_ready (rs := [4]) (by kernel_rfl) (by simp) ?_
        refine AllReadyH.cons (o := ({ dst := some 59, op := .call { callee := .value (.func 7), args := #[.tmp 55, .tmp 58], argTypes := #[24, 28] }, type := 33, pos := "law.go:25", after := #[⟨0, .data⟩, ⟨3, .data⟩, ⟨1, .chain⟩], guard := none } : Go.Oper)) rfl (fun K hK => ?_) AllReadyH.nil
        go_simp; refine (do_any _ _ kv2 ke3 _ ⟨_, _, _, rfl, HR4.out.ext (by with_reducible (repeat (first | exact Ext.rfl_ _ | assumption | refine Ext.drew ?_ | refine Ext.drewN ?_ _ | refine Ext.alloc ?_ _ | refine Ext.trans ?_ (by assumption)))), HC4.out⟩ ⟨none, 0, 0, _, _, _, rfl, rdN_nil _ _, Nat.le_refl _, HL2.out.ext (by with_reducible (repeat (first | exact Ext.rfl_ _ | assumption | refine Ext.drew ?_ | refine Ext.drewN ?_ _ | refine Ext.alloc ?_ _ | refine Ext.trans ?_ (by assumption)))), Nat.le_refl _⟩ (by decide) (by decide) (by decide)).mono ?_; rintro e wd ⟨u4, z4, err4, rfl, hu, hd, hx⟩; obtain ⟨rfl, rfl⟩ := kdo3 hd; obtain ⟨b6, A6, n6, c6, hv4, _, _⟩ := hu; have hv4' : u4 = .agg #[.int .i64 0, .int .i64 0, .int .i64 0, .int .i64 0, .slice A6 n6 c6] := hv4; subst hv4'; clear hd hv4; (try (have HBO := Lib.hid (blkX HBO.out (show Ext _ wd from (by with_reducible (repeat (first | exact Ext.rfl_ _ | assumption | refine Ext.drew ?_ | refine Ext.drewN ?_ _ | refine Ext.alloc ?_ _ | refine Ext.trans ?_ (by assumption)))))))); (try (go_wp2_with fail))
        refine hK.out _ _ (by (try dsimp only); exact HS4.out _ (by with_reducible (repeat (first | assumption | exact .rfl_ _ | refine .drew ?_ | refine .alloc ?_ _ | refine .setCell ?_ (by omega) _ | refine .trans ?_ (by assumption))))) (fun hHeld => ?_)
        clear hK K
        (try simp only [Act.put, List.getElem_toArray, List.getElem_cons_zero, List.getElem_cons_succ, List.setIfInBounds_toArray, List.set_cons_zero, List.set_cons_succ])
        refine wpAnyH_take (i := 5) (oi := ({ dst := some 54, op := .move (.tmp 59), type := 33, pos := "law.go:25", after := #[⟨4, .data⟩], guard := none } : Go.Oper)) (v := ?v162) rfl (by kernel_rfl) (by kernel_rfl) (by kernel_rfl) (fun _ _ _ h => h) (Or.inl ⟨by rfl, ?hy162⟩) (by assumption) ?rest162
        case hy162 => (intro w hSw; (try dsimp only at hSw); go_simp; (try with_reducible rfl))
        (try simp only [Act.put, List.getElem_toArray, List.getElem_cons_zero, List.getElem_cons_succ, List.setIfInBounds_toArray, List.set_cons_zero, List.set_cons_succ])
        refine wpAnyH_take (i := 6) (oi := ({ dst := some 60, op := .extract (.tmp 54) 0, type := 24, pos := "law.go:25", after := #[⟨5, .data⟩], guard := none } : Go.Oper)) (v := ?v163) rfl (by kernel_rfl) (by kernel_rfl) (by kernel_rfl) (fun _ _ _ h => h) (Or.inl ⟨by rfl, ?hy163⟩) (by assumption) ?rest163
        case hy163 => (intro w hSw; (try dsimp only at hSw); go_simp; (try with_reducible rfl))
        (try simp only [Act.put, List.getElem_toArray, List.getElem_cons_zero, List.getElem_cons_succ, List.setIfInBounds_toArray, List.set_cons_zero, List.set_cons_succ])
        refine wpAnyH_take (i := 7) (oi := ({ dst := some 61, op := .extract (.tmp 54) 1, type := 29, pos := "law.go:25", after := #[⟨5, .data⟩, ⟨9, .gcOnly .lateStores⟩], guard := none } : Go.Oper)) (v := ?v164) rfl (by kernel_rfl) (by kernel_rfl) (by kernel_rfl) (fun _ _ _ h => h) (Or.inl ⟨by rfl, ?hy164⟩) (by assumption) ?rest164
        case hy164 => (intro w hSw; (try dsimp only at hSw); go_simp; (try with_reducible rfl))
        (try simp only [Act.put, List.getElem_toArray, List.getElem_cons_zero, List.getElem_cons_succ, List.setIfInBounds_toArray, List.set_cons_zero, List.set_cons_succ])
        refine wpAnyH_ready (rs := [9]) (by kernel_rfl) (by simp) ?_
        refine AllReadyH.cons (o := ({ dst := none, op := .store 24 (.tmp 4) (.tmp 60), type := 0, pos := "law.go:25", after := #[⟨8, .data⟩, ⟨6, .data⟩, ⟨4, .chain⟩, ⟨0, .phase⟩, ⟨1, .phase⟩, ⟨2, .phase⟩, ⟨3, .phase⟩, ⟨4, .phase⟩, ⟨5, .phase⟩, ⟨6, .phase⟩, ⟨7, .textOnly .lateStores⟩, ⟨8, .phase⟩], guard := none } : Go.Oper)) rfl (fun K hK => ?_) AllReadyH.nil
        obtain ⟨o0, o1, o2, o3, o4, p0, p1, p2, p3, p4⟩ := box5 HBO.out (Ext.rfl_ _); go_simp
        refine hK.out _ _ (by (try dsimp only); exact HS4.out _ (by with_reducible (repeat (first | assumption | exact .rfl_ _ | refine .drew ?_ | refine .alloc ?_ _ | refine .setCell ?_ (by omega) _ | refine .trans ?_ (by assumption))))) (fun hHeld => ?_)
        clear hK K
        (try simp only [Act.put, List.getElem_toArray, List.getElem_cons_zero, List.getElem_cons_succ, List.setIfInBounds_toArray, List.set_cons_zero, List.set_cons_succ])
        refine wpAnyH_take (i := 10) (oi := ({ dst := some 5, op := .assign (.tmp 61), type := 29, pos := "law.go:25", after := #[⟨7, .data⟩, ⟨9, .chain⟩, ⟨0, .phase⟩, ⟨1, .phase⟩, ⟨2, .phase⟩, ⟨3, .phase⟩, ⟨4, .phase⟩, ⟨5, .phase⟩, ⟨6, .phase⟩, ⟨7, .phase⟩, ⟨8, .phase⟩, ⟨9, .phase⟩], guard := none } : Go.Oper)) (v := ?v165) rfl (by kernel_rfl) (by kernel_rfl) (by kernel_rfl) (fun _ _ _ h => h) (Or.inl ⟨by rfl, ?hy165⟩) (by assumption) ?rest165
        case hy165 => (intro w hSw; (try dsimp only at hSw); go_simp; (try with_reducible rfl))
        (try simp only [Act.put, List.getElem_toArray, List.getElem_cons_zero, List.getElem_cons_succ, List.setIfInBounds_toArray, List.set_cons_zero, List.set_cons_succ])
        refine wpAnyH_done (by kernel_rfl) ?_ _
      all_goals
        go_wp2
        go_meet
        exact ⟨rfl, (by with_reducible (repeat (first | exact Ext.rfl_ _ | assumption | refine Ext.drew ?_ | refine Ext.drewN ?_ _ | refine Ext.alloc ?_ _ | refine Ext.setCell ?_ (by first | (simp; done) | (simp; omega)) _ | refine Ext.trans ?_ (by assumption))))⟩
    case rest =>
      obtain ⟨rfl, X5⟩ := hcut
      have hconv := fun (w : World) (cs : Array Value) (n c : Nat) => run_convert_lit (P := Tryz.prog) w 35 5 cs n c Tryz.underlying35 Tryz.underlying5
      obtain ⟨o0, o1, o2, o3, o4, _⟩ := box5 HBO4.out X5
      have HV := Lib.hid (show RdV wc (.agg #[.int .i64 4, .int .i64 0, .int .i64 0, .int .i64 3, .slice (some ⟨gb, ob, none⟩) 2 c4]) kv2 from ⟨_, _, _, rfl, HR4.out.ext X5, HC4.out⟩)
      have HX5 := Lib.hid (HX4.out.trans X5)
      have HF := Lib.hid ((lit1 wc 5 98).ext (litWorld_ext (litWorld wc 5 #[Value.int .u8 98]) 5 #[Value.int .u8 99]))
      have HG := Lib.hid (lit1 (litWorld wc 5 #[Value.int .u8 98]) 5 99)
      have HLX := Lib.hid ((litWorld_ext wc 5 #[Value.int .u8 98]).trans (litWorld_ext (litWorld wc 5 #[Value.int .u8 98]) 5 #[Value.int .u8 99]))
      go_wp2_with (go_at_call 12; refine (overlap_any _ kv2 1 _ _ 1 1 1 1 [98] [99] _ (HV.out.ext HLX.out) (by decide) HF.out HG.out).mono ?_; rintro e w6 ⟨A6, n6, c6, rfl, hc6, hr6, hx6⟩; rw [kover] at hr6; obtain rfl : 2 = n6 := hr6.1; have HX6 := Lib.hid (HX5.out.trans (HLX.out.trans hx6)); obtain ⟨gc, oc, Au, nu, cu, Bu, mu, du, tu, rfl, htu, ⟨m0, _, _, _, _⟩, _⟩ := hr6.at_ 0 (by decide); obtain ⟨gd, od, Av, nv, cv, Bv, mv, dv, tv, hcd, htv, ⟨m1, _, _, _, _⟩, _⟩ := hr6.at_ 1 (by decide); cases hcd; have hu2 : tu = kt2 := (by simpa using htu.symm); have hv3 : tv = kt3 := (by simpa using htv.symm); subst hu2 hv3; have m0' : w6.cell? ⟨gc, oc, none⟩ = some (.int .i64 2) := (by simpa [kt2] using m0); have m1' : w6.cell? ⟨gc, oc + 5, none⟩ = some (.int .i64 3) := (by simpa [kt3] using m1); clear hr6 hx6 m0 m1 htu htv)
      go_ret
      exact ⟨rfl, HX6.out⟩

end Go.Proofs.YteooaplimiifiaaGreat
