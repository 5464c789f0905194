/- The walk of WalReads. Conditions: the bytes read. -/
import Derived.Test.YthdahmicjlplcaaBatK
namespace Go.Proofs.Ythdahmicjlplcaa
set_option linter.unusedSimpArgs false
set_option linter.unusedVariables false
open Go.RowKit

theorem rd119 (w : World) : Rd (w.alloc (.cells #[.int .u8 119] 5)) (some ⟨w.heap.size, 0, none⟩) 1 [119] :=
  ⟨rfl, fun _ => ⟨_, 0, rfl, fun j hj => by
    obtain rfl : j = 0 := by simp at hj; exact hj
    have h := heap_alloc_new w (.cells #[.int .u8 119] 5)
    unfold World.cell?
    simp only [h]
    rfl⟩⟩
theorem Rd.preW {w : World} {A : Option Addr} {n k : Nat} {x : Bs} (h : Rd w A n x) (hk : k ≤ n) : Rd w A k (x.take k) := by
  rcases Nat.eq_zero_or_pos k with rfl | h0
  · exact ⟨by simp, fun h => absurd h (by omega)⟩
  · obtain ⟨b, o, rfl, _⟩ := h.2 (by omega)
    exact Rd.front h k hk

set_option maxRecDepth 100000 in
set_option maxHeartbeats 8000000 in
theorem wreads_walk (A : Option Addr) (n c : Nat) (b : Bs) (w : World) (hx : Rd w A n b) (hnc : n ≤ c) (hn : n ≤ B47) :
    Calls Try.prog 4 #[.slice A n c] w fun e w' => e = .returned (.bool true) ∧ Ext w w' := by
  have HX := Lib.hid hx
  have hbl := hx.1
  clear hx
  go_enter Try.func4, Try.ntmps4
  by_cases h9 : (60000 : Int) < (n : Int)
  · have d9 : decide (60000 < n) = true := decide_eq_true (by omega)
    go_wp2_with fail
    refine (known_any _).mono ?_
    rintro e w1 ⟨rfl, hw1⟩
    go_wp2
    go_ret
    exact ⟨rfl, (by with_reducible (repeat (first | exact Ext.rfl_ _ | assumption | refine Ext.drew ?_ | refine Ext.drewN ?_ _ | refine Ext.alloc ?_ _ | refine Ext.trans ?_ (by assumption))))⟩
  · have d9 : decide ((60000 : Int) < (n : Int)) = false := decide_eq_false h9
    have d9n : decide (60000 < n) = false := decide_eq_false (by omega)
    have hn40 : n ≤ 1000000 := by omega
    have HBL := Lib.hid hbl
    clear hbl
    go_wp2_with (first | (at_builtin; refine wp_app rfl _ _ rfl w.heap.size _ [] rfl (OwnB.nil _ _) A n c b rfl HX.out (by rw [HBL.out]; simp only [List.length_nil]; omega) (Nat.le_refl _) ?_; intro v1 w1 o1 g1; rw [List.nil_append] at o1; have Z1 := Lib.hid ((Ext.rfl_ w).growBy g1 (OwnB.nil w w.heap.size) (Nat.le_refl _)); have O1 := Lib.hid o1; clear o1 g1) | (at_builtin; refine wp_app rfl _ _ rfl w.heap.size _ b rfl (O1.out.ext (Ext.alloc (Ext.rfl_ w1) _)) (some ⟨w1.heap.size, 0, none⟩) 1 1 [119] rfl (rd119 w1) (by rw [HBL.out]; simp only [List.length_cons, List.length_nil]; unfold B47; omega) (Ext.size (Z1.out.trans (Ext.alloc (Ext.rfl_ w1) _))) ?_; intro v2 w2 o2 g2; have Z2 := Lib.hid ((Z1.out.trans (Ext.alloc (Ext.rfl_ w1) _)).growBy g2 (O1.out.ext (Ext.alloc (Ext.rfl_ w1) _)) (Nat.le_refl _)); obtain ⟨A2, n2, c2, hv2, l2, r2, _⟩ := o2.formN; subst hv2; obtain rfl : n2 = n + 1 := (by rw [← r2.1, List.length_append, HBL.out]; rfl); have R2 := Lib.hid r2; have hc2 : n ≤ c2 := (by omega); have hci : (n : Int) ≤ (c2 : Int) := (by omega); clear o2 g2 r2))
    have hr2 : Rd w2 A2 n b := by
      have := R2.out.preW (k := n) (by omega)
      rwa [List.take_left' HBL.out] at this
    have RB2 := Lib.hid hr2
    clear hr2
    refine (wbatches_any A2 n c2 b _ RB2.out hc2 hn40).mono ?_
    rintro e w3 ⟨vl, rfl, o3, hw3⟩
    have hlen := batW_len b
    obtain ⟨Al, nl, cl, rfl, hcl, hrl⟩ := o3.formN (by rw [HBL.out] at hlen; unfold B41; omega)
    have HRL := Lib.hid hrl
    have X3 := Lib.hid (Z2.out.trans hw3)
    have Y3 := Lib.hid hw3
    clear o3 hrl hw3
    go_wp2_with fail
    refine (r13batches_any A n c b _ (HX.out.ext X3.out) hnc hn40).mono ?_
    rintro e w4 ⟨vm, rfl, o4, hw4⟩
    obtain ⟨Am, nm, cm, rfl, hcm, hrm⟩ := o4.formN (by rw [HBL.out] at hlen; unfold B41; omega)
    have HRM := Lib.hid hrm
    have HRL4 := Lib.hid (HRL.out.ext hw4)
    have Y4 := Lib.hid (Y3.out.trans hw4)
    clear o4 hrm hw4 HRL
    obtain ⟨sz, hsz⟩ : ∃ sz, sz = sizeW b := ⟨_, rfl⟩
    obtain ⟨ok, hok⟩ : ∃ ok, ok = okW b := ⟨_, rfl⟩
    rw [← hsz, ← hok]
    clear hsz hok hlen
    go_wp2_with fail
    refine (rsame13_any Al nl cl Am nm cm (batW b) (batW b) _ HRL4.out HRM.out).mono ?_
    rintro e w5 ⟨rfl, hw5⟩
    rw [decide_eq_true rfl]
    have XR := Lib.hid (Y4.out.trans hw5)
    clear hw5 HRL4 HRM
    have s1 := (R2.out.ext XR.out).str (P := Try.prog) c2 29 5 9 Try.underlying29 Try.underlying5 Try.underlying9
    have s2 := (HX.out.ext (Z2.out.trans XR.out)).str (P := Try.prog) c 29 5 9 Try.underlying29 Try.underlying5 Try.underlying9
    have happ : ((⟨b.toArray⟩ : ByteArray) ++ ⟨#[119]⟩) = ⟨(b ++ [119]).toArray⟩ := by apply ByteArray.ext; simp
    have hlx : ¬ 9223372036854775807 < b.length + 1 := by rw [HBL.out]; omega
    go_wp2_with fail
    refine (known_any _).mono ?_
    rintro e w9 ⟨rfl, hw9⟩
    go_wp2
    go_ret
    exact ⟨rfl, Z2.out.trans (XR.out.trans hw9)⟩

end Go.Proofs.Ythdahmicjlplcaa
