/- Contracts of frame.Put, and of the reference's Put. Conditions: the payload reads. -/
import Derived.Test.YteooaplimiifiaaGreatCrcA
import Derived.Test.YteooaplimiifiaaGreatRefB
namespace Go.Proofs.YteooaplimiifiaaGreat
set_option linter.unusedSimpArgs false
set_option linter.unusedVariables false
set_option maxRecDepth 100000
open Go.RowKit

def fpB (p : Bs) : Bs := if mayF p.length = true then frmB p else []
def fpN (p : Bs) : Int := if p.length = 0 then 2 else if mayF p.length = true then 0 else 3

theorem w4_cell (n : Nat) (hn : n < 4294967296) (j : Nat) (hj : j < (w4 n).length) : (w4V n)[j]? = some (.int .u8 ((w4 n)[j].toNat : Int)) := by
  have e1 : ((UInt8.ofNat (n / 16777216)).toNat : Int) = (n : Int) / 16777216 := by rw [UInt8.toNat_ofNat']; omega
  have e2 : ((UInt8.ofNat (n / 65536)).toNat : Int) = (n : Int) / 65536 % 256 := by rw [UInt8.toNat_ofNat']; omega
  have e3 : ((UInt8.ofNat (n / 256)).toNat : Int) = (n : Int) / 256 % 256 := by rw [UInt8.toNat_ofNat']; omega
  have e4 : ((UInt8.ofNat n).toNat : Int) = (n : Int) % 256 := by rw [UInt8.toNat_ofNat']; omega
  have hl : j < 4 := hj
  rcases (by omega : j = 0 ∨ j = 1 ∨ j = 2 ∨ j = 3) with rfl | rfl | rfl | rfl
  · show some (Value.int .u8 _) = some (Value.int .u8 (((UInt8.ofNat (n / 16777216)).toNat : Nat) : Int)); rw [e1]
  · show some (Value.int .u8 _) = some (Value.int .u8 (((UInt8.ofNat (n / 65536)).toNat : Nat) : Int)); rw [e2]
  · show some (Value.int .u8 _) = some (Value.int .u8 (((UInt8.ofNat (n / 256)).toNat : Nat) : Int)); rw [e3]
  · show some (Value.int .u8 _) = some (Value.int .u8 (((UInt8.ofNat n).toNat : Nat) : Int)); rw [e4]
theorem w4_rd (w : World) (t : TypeId) (n : Nat) (hn : n < 4294967296) : Rd (w.alloc (.cells (w4V n) t)) (some ⟨w.heap.size, 0, none⟩) 4 (w4 n) := by
  have h := heap_alloc_new w (.cells (w4V n) t)
  refine ⟨rfl, fun _ => ⟨_, 0, rfl, fun j hj => ?_⟩⟩
  rw [Nat.zero_add]
  simp only [World.cell?, h]
  exact w4_cell n hn j hj

set_option maxRecDepth 100000 in
set_option maxHeartbeats 4000000 in
theorem fput_any (A : Option Addr) (n c : Nat) (p : Bs) (w : World) (hp : Rd w A n p) (hn : n ≤ B40) :
    Calls Tryz.prog 34 #[.slice A n c] w fun e w' => ∃ v', e = .returned (.tuple #[v', .int .i64 (fpN p)]) ∧ OwnB w' w.heap.size v' (fpB p) ∧ Ext w w' := by
  have hpl := hp.1
  have HP := Lib.hid hp
  have hnb := hn
  unfold B40 at hn
  clear hp
  by_cases h0 : n = 0
  · subst h0
    have hN : fpN p = 2 := by unfold fpN; rw [if_pos hpl]
    have hB : fpB p = [] := by unfold fpB mayF; rw [hpl]; rfl
    rw [hN, hB]
    go_enter Tryz.func34, Tryz.ntmps34
    go_wp2
    go_ret2
    exact ⟨_, rfl, OwnB.nil _ _, (by with_reducible (repeat (first | exact Ext.rfl_ _ | assumption | refine Ext.drew ?_ | refine Ext.drewN ?_ _ | refine Ext.alloc ?_ _ | refine Ext.trans ?_ (by assumption))))⟩
  · have h0' : ((n : Int) == 0) = false := by simp; omega
    by_cases hm : mayF n = true
    · have hN : fpN p = 0 := by unfold fpN; rw [if_neg (by omega), if_pos (by rw [hpl]; exact hm)]
      have hB : fpB p = frmB p := by unfold fpB; rw [if_pos (by rw [hpl]; exact hm)]
      have hmm := hm
      unfold mayF at hmm
      simp only [decide_eq_true_eq] at hmm
      have hwr : IntKind.u32.wrap (n : Int) = (n : Int) := by rw [IntKind.wrap_u32]; omega
      have HM := Lib.hid hm
      rw [hN, hB]
      clear hm hN hB
      obtain ⟨s, hs⟩ : ∃ s, s = crcB [w4 n, p].flatten := ⟨_, rfl⟩
      have hs32 : s < 4294967296 := by rw [hs]; exact crcB_lt _
      have HS := Lib.hid hs
      clear hs
      go_enter Tryz.func34, Tryz.ntmps34
      go_wp2_with (first | (go_at_call 54; refine (fmay_any n _).mono ?_; rintro e w3 ⟨rfl, rfl⟩; rw [HM.out]) | (go_at_call 55; refine (fword_any n _ (by omega)).mono ?_; rintro e w1 ⟨rfl, hw1⟩; unfold w4V))
      have hbb : RdBB ((w1.alloc (.cells (w4V n) 88)).alloc (.cells #[.slice (some ⟨w1.heap.size, 0, none⟩) 4 4, .slice A n c] 35)) (some ⟨w1.heap.size + 1, 0, none⟩) 2 [w4 n, p] := by
        have h := RdBB.new2 (w := w1.alloc (.cells (w4V n) 88)) (t := 35) (A0 := some ⟨w1.heap.size, 0, none⟩) (n0 := 4) (c0 := 4) (A1 := A) (n1 := n) (c1 := c) (w4_rd w1 _ n (by omega)) (HP.out.ext (by with_reducible (repeat (first | exact Ext.rfl_ _ | assumption | refine Ext.drew ?_ | refine Ext.drewN ?_ _ | refine Ext.alloc ?_ _ | refine Ext.trans ?_ (by assumption)))))
        rw [World.size_alloc] at h
        exact h
      refine (csum_any _ 2 2 [w4 n, p] _ hbb (by decide) (by intro y hy; simp at hy; rcases hy with rfl | rfl <;> (try rw [w4_len]) <;> (unfold B47; omega))).mono ?_
      rintro e w2 ⟨rfl, hw2⟩
      rw [← HS.out]
      have hR4 : Rd w2 (some ⟨w1.heap.size, 0, none⟩) 4 (w4 n) := (w4_rd w1 88 n (by omega)).ext (Ext.trans (Ext.alloc (Ext.rfl_ _) _) hw2)
      have hX2 : Ext w w2 := Ext.trans (Ext.alloc (Ext.alloc hw1 _) _) hw2
      have HR4 := Lib.hid hR4
      have HX2 := Lib.hid hX2
      clear hbb hw1 hw2 hR4 hX2
      go_wp2_with (first | (go_at_call 55; refine (fword_any s _ hs32).mono ?_; rintro e w3 ⟨rfl, hw3⟩; unfold w4V))
      have hR5 : Rd (w3.alloc (.cells (w4V s) 88)) (some ⟨w3.heap.size, 0, none⟩) 4 (w4 s) := w4_rd w3 _ s hs32
      unfold w4V at hR5
      obtain ⟨W0, hW0⟩ : ∃ W0, W0 = (w3.alloc (.cells #[.int .u8 ((s : Int) / 16777216), .int .u8 ((s : Int) / 65536 % 256), .int .u8 ((s : Int) / 256 % 256), .int .u8 ((s : Int) % 256)] 88)) := ⟨_, rfl⟩
      obtain ⟨g5, hg5⟩ : ∃ g5, g5 = w3.heap.size := ⟨_, rfl⟩
      have hX : Ext w2 W0 := by rw [hW0]; exact (by with_reducible (repeat (first | exact Ext.rfl_ _ | assumption | refine Ext.drew ?_ | refine Ext.drewN ?_ _ | refine Ext.alloc ?_ _ | refine Ext.trans ?_ (by assumption))))
      rw [← hW0, ← hg5] at hR5 ⊢
      obtain ⟨g4, hg4⟩ : ∃ g4, g4 = w1.heap.size := ⟨_, rfl⟩
      rw [← hg4] at HR4 ⊢
      have H4 := Lib.hid (HR4.out.ext hX)
      have H5 := Lib.hid hR5
      have HPW := Lib.hid (HP.out.ext (HX2.out.trans hX))
      have HXW := Lib.hid (HX2.out.trans hX)
      clear hW0 hg5 hg4 hX hR5 hw3 HR4 HX2
      refine wp_region_held_drew (S := (fun w' => True)) (by kernel_rfl) (by (try dsimp only); try exact trivial) (fun hHeld => ?_)
      refine wpAnyH_take (i := 0) (oi := ({ dst := some 24, op := .slice 88 (.tmp 4) none none none, type := 35, pos := "frame.go:33", after := #[], guard := none } : Go.Oper)) (v := ?v1) rfl (by kernel_rfl) (by kernel_rfl) (by kernel_rfl) (fun _ _ _ h => h) (Or.inl ⟨by rfl, ?hy1⟩) (by assumption) ?rest1
      case hy1 => (intro w hSw; (try dsimp only at hSw); go_simp; (try with_reducible rfl))
      (try simp only [Act.put, List.getElem_toArray, List.getElem_cons_zero, List.getElem_cons_succ, List.setIfInBounds_toArray, List.set_cons_zero, List.set_cons_succ])
      refine wpAnyH_take (i := 2) (oi := ({ dst := some 26, op := .slice 88 (.tmp 5) none none none, type := 35, pos := "frame.go:33", after := #[], guard := none } : Go.Oper)) (v := ?v2) rfl (by kernel_rfl) (by kernel_rfl) (by kernel_rfl) (fun _ _ _ h => h) (Or.inl ⟨by rfl, ?hy2⟩) (by assumption) ?rest2
      case hy2 => (intro w hSw; (try dsimp only at hSw); go_simp; (try with_reducible rfl))
      (try simp only [Act.put, List.getElem_toArray, List.getElem_cons_zero, List.getElem_cons_succ, List.setIfInBounds_toArray, List.set_cons_zero, List.set_cons_succ])
      refine wpAnyH_take (i := 4) (oi := ({ dst := some 28, op := .move (.tmp 0), type := 35, pos := "frame.go:33", after := #[], guard := none } : Go.Oper)) (v := ?v3) rfl (by kernel_rfl) (by kernel_rfl) (by kernel_rfl) (fun _ _ _ h => h) (Or.inl ⟨by rfl, ?hy3⟩) (by assumption) ?rest3
      case hy3 => (intro w hSw; (try dsimp only at hSw); go_simp; (try with_reducible rfl))
      (try simp only [Act.put, List.getElem_toArray, List.getElem_cons_zero, List.getElem_cons_succ, List.setIfInBounds_toArray, List.set_cons_zero, List.set_cons_succ])
      refine wpAnyH_ready (rs := [1]) (by kernel_rfl) (by simp) ?_
      refine AllReadyH.cons (o := ({ dst := some 25, op := .call { callee := .builtin .append, args := #[.const (.slice none 0 0), .tmp 24], argTypes := #[35, 35] }, type := 35, pos := "frame.go:33", after := #[⟨0, .data⟩], guard := none } : Go.Oper)) rfl (fun K hK => ?_) AllReadyH.nil
      refine step_app rfl _ _ rfl W0.heap.size (.slice none 0 0) [] rfl (OwnB.nil _ _) (some ⟨g4, 0, none⟩) 4 4 (w4 n) rfl (H4.out.ext (by with_reducible (repeat (first | exact Ext.rfl_ _ | assumption | refine Ext.drew ?_ | refine Ext.drewN ?_ _ | refine Ext.alloc ?_ _ | refine Ext.trans ?_ (by assumption))))) (by simp [w4_len, B47]) (Ext.size (w := W0) (by with_reducible (repeat (first | exact Ext.rfl_ _ | assumption | refine Ext.drew ?_ | refine Ext.drewN ?_ _ | refine Ext.alloc ?_ _ | refine Ext.trans ?_ (by assumption))))) ?_; intro v1 w1 o1 g1 _; have X1 : Ext W0 w1 := Ext.growBy (show Ext W0 _ from (by with_reducible (repeat (first | exact Ext.rfl_ _ | assumption | refine Ext.drew ?_ | refine Ext.drewN ?_ _ | refine Ext.alloc ?_ _ | refine Ext.trans ?_ (by assumption))))) g1 (OwnB.nil _ _) (Nat.le_refl _)
      refine hK.out _ _ (by (try dsimp only); try exact trivial) (fun hHeld => ?_)
      clear hK K
      (try simp only [Act.put, List.getElem_toArray, List.getElem_cons_zero, List.getElem_cons_succ, List.setIfInBounds_toArray, List.set_cons_zero, List.set_cons_succ])
      refine wpAnyH_ready (rs := [3]) (by kernel_rfl) (by simp) ?_
      refine AllReadyH.cons (o := ({ dst := some 27, op := .call { callee := .builtin .append, args := #[.tmp 25, .tmp 26], argTypes := #[35, 35] }, type := 35, pos := "frame.go:33", after := #[⟨1, .data⟩, ⟨2, .data⟩, ⟨1, .chain⟩], guard := none } : Go.Oper)) rfl (fun K hK => ?_) AllReadyH.nil
      refine step_app rfl _ _ rfl W0.heap.size v1 (w4 n) rfl (o1.ext (by with_reducible (repeat (first | exact Ext.rfl_ _ | assumption | refine Ext.drew ?_ | refine Ext.drewN ?_ _ | refine Ext.alloc ?_ _ | refine Ext.trans ?_ (by assumption))))) (some ⟨g5, 0, none⟩) 4 4 (w4 s) rfl (H5.out.ext (by with_reducible (repeat (first | exact Ext.rfl_ _ | assumption | refine Ext.drew ?_ | refine Ext.drewN ?_ _ | refine Ext.alloc ?_ _ | refine Ext.trans ?_ (by assumption))))) (by simp [w4_len, B47]) (Ext.size (w := W0) (by with_reducible (repeat (first | exact Ext.rfl_ _ | assumption | refine Ext.drew ?_ | refine Ext.drewN ?_ _ | refine Ext.alloc ?_ _ | refine Ext.trans ?_ (by assumption))))) ?_; intro v2 w2 o2 g2 _; have X2 : Ext W0 w2 := Ext.growBy (show Ext W0 _ from (by with_reducible (repeat (first | exact Ext.rfl_ _ | assumption | refine Ext.drew ?_ | refine Ext.drewN ?_ _ | refine Ext.alloc ?_ _ | refine Ext.trans ?_ (by assumption))))) g2 (o1.ext (by with_reducible (repeat (first | exact Ext.rfl_ _ | assumption | refine Ext.drew ?_ | refine Ext.drewN ?_ _ | refine Ext.alloc ?_ _ | refine Ext.trans ?_ (by assumption))))) (Nat.le_refl _)
      refine hK.out _ _ (by (try dsimp only); try exact trivial) (fun hHeld => ?_)
      clear hK K
      (try simp only [Act.put, List.getElem_toArray, List.getElem_cons_zero, List.getElem_cons_succ, List.setIfInBounds_toArray, List.set_cons_zero, List.set_cons_succ])
      refine wpAnyH_ready (rs := [5]) (by kernel_rfl) (by simp) ?_
      refine AllReadyH.cons (o := ({ dst := some 29, op := .call { callee := .builtin .append, args := #[.tmp 27, .tmp 28], argTypes := #[35, 35] }, type := 35, pos := "frame.go:33", after := #[⟨3, .data⟩, ⟨4, .data⟩, ⟨3, .chain⟩], guard := none } : Go.Oper)) rfl (fun K hK => ?_) AllReadyH.nil
      refine step_app rfl _ _ rfl W0.heap.size v2 _ rfl (o2.ext (by with_reducible (repeat (first | exact Ext.rfl_ _ | assumption | refine Ext.drew ?_ | refine Ext.drewN ?_ _ | refine Ext.alloc ?_ _ | refine Ext.trans ?_ (by assumption))))) A n c p rfl (HPW.out.ext (by with_reducible (repeat (first | exact Ext.rfl_ _ | assumption | refine Ext.drew ?_ | refine Ext.drewN ?_ _ | refine Ext.alloc ?_ _ | refine Ext.trans ?_ (by assumption))))) (by simp [w4_len]; unfold B47; omega) (Ext.size (w := W0) (by with_reducible (repeat (first | exact Ext.rfl_ _ | assumption | refine Ext.drew ?_ | refine Ext.drewN ?_ _ | refine Ext.alloc ?_ _ | refine Ext.trans ?_ (by assumption))))) ?_; intro v3 w4' o3 g3 _; have X3 : Ext W0 w4' := Ext.growBy (show Ext W0 _ from (by with_reducible (repeat (first | exact Ext.rfl_ _ | assumption | refine Ext.drew ?_ | refine Ext.drewN ?_ _ | refine Ext.alloc ?_ _ | refine Ext.trans ?_ (by assumption))))) g3 (o2.ext (by with_reducible (repeat (first | exact Ext.rfl_ _ | assumption | refine Ext.drew ?_ | refine Ext.drewN ?_ _ | refine Ext.alloc ?_ _ | refine Ext.trans ?_ (by assumption))))) (Nat.le_refl _)
      refine hK.out _ _ (by (try dsimp only); try exact trivial) (fun hHeld => ?_)
      clear hK K
      (try simp only [Act.put, List.getElem_toArray, List.getElem_cons_zero, List.getElem_cons_succ, List.setIfInBounds_toArray, List.set_cons_zero, List.set_cons_succ])
      refine wpAnyH_take (i := 6) (oi := ({ dst := some 2, op := .assign (.tmp 29), type := 35, pos := "frame.go:33", after := #[⟨5, .data⟩, ⟨5, .chain⟩, ⟨0, .phase⟩, ⟨1, .phase⟩, ⟨2, .phase⟩, ⟨3, .phase⟩, ⟨4, .phase⟩, ⟨5, .phase⟩], guard := none } : Go.Oper)) (v := ?v4) rfl (by kernel_rfl) (by kernel_rfl) (by kernel_rfl) (fun _ _ _ h => h) (Or.inl ⟨by rfl, ?hy4⟩) (by assumption) ?rest4
      case hy4 => (intro w hSw; (try dsimp only at hSw); go_simp; (try with_reducible rfl))
      (try simp only [Act.put, List.getElem_toArray, List.getElem_cons_zero, List.getElem_cons_succ, List.setIfInBounds_toArray, List.set_cons_zero, List.set_cons_succ])
      refine wpAnyH_take (i := 7) (oi := ({ dst := some 3, op := .assign (.const (.int .i64 0)), type := 29, pos := "frame.go:33", after := #[⟨6, .chain⟩, ⟨0, .phase⟩, ⟨1, .phase⟩, ⟨2, .phase⟩, ⟨3, .phase⟩, ⟨4, .phase⟩, ⟨5, .phase⟩, ⟨6, .phase⟩], guard := none } : Go.Oper)) (v := ?v5) rfl (by kernel_rfl) (by kernel_rfl) (by kernel_rfl) (fun _ _ _ h => h) (Or.inl ⟨by rfl, ?hy5⟩) (by assumption) ?rest5
      case hy5 => (intro w hSw; (try dsimp only at hSw); go_simp; (try with_reducible rfl))
      (try simp only [Act.put, List.getElem_toArray, List.getElem_cons_zero, List.getElem_cons_succ, List.setIfInBounds_toArray, List.set_cons_zero, List.set_cons_succ])
      refine wpAnyH_done (by kernel_rfl) ?_ _
      all_goals
        go_wp2
        go_ret2
        refine ⟨v3, rfl, ?_, HXW.out.trans X3⟩
        have e : frmB p = w4 n ++ w4 s ++ p := by
          unfold frmB
          rw [hpl, HS.out, List.append_assoc]
          simp
        rw [e]
        exact o3.mono HXW.out.size
    · have hmf : mayF n = false := by simpa using hm
      have hN : fpN p = 3 := by unfold fpN; rw [if_neg (by omega), if_neg (by rw [hpl]; exact hm)]
      have hB : fpB p = [] := by unfold fpB; rw [if_neg (by rw [hpl]; exact hm)]
      have HM := Lib.hid hmf
      rw [hN, hB]
      clear hm hmf hN hB
      go_enter Tryz.func34, Tryz.ntmps34
      go_wp2_with (first | (go_at_call 54; refine (fmay_any n _).mono ?_; rintro e w3 ⟨rfl, rfl⟩; rw [HM.out]))
      go_ret2
      exact ⟨_, rfl, OwnB.nil _ _, (by with_reducible (repeat (first | exact Ext.rfl_ _ | assumption | refine Ext.drew ?_ | refine Ext.drewN ?_ _ | refine Ext.alloc ?_ _ | refine Ext.trans ?_ (by assumption))))⟩


end Go.Proofs.YteooaplimiifiaaGreat
