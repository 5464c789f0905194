/- The reference's Twice: is a number there twice? Conditions: the list reads. -/
import Derived.Test.YteooaplimiifiaaEdDoM
namespace Go.Proofs.Yteooaplimiifiaa
set_option linter.unusedSimpArgs false
set_option linter.unusedVariables false
open Go.RowKit

/-- Is a number there twice? -/
def twT (zs : List Int) : Bool := decide (¬ zs.Nodup)
theorem nodup_take {zs : List Int} {k : Nat} {z : Int} (h : (zs.take k).Nodup) (hz : zs[k]? = some z) (hn : ∀ j u, j < k → zs[j]? = some u → u ≠ z) : (zs.take (k + 1)).Nodup := by
  have e : zs.take (k + 1) = zs.take k ++ [z] := by rw [List.take_add_one, hz]; rfl
  rw [e, List.nodup_append]
  refine ⟨h, by simp, fun a ha b hb e => ?_⟩
  simp at hb
  subst hb
  obtain ⟨j, hj, rfl⟩ := List.mem_iff_getElem.1 ha
  rw [List.length_take] at hj
  rw [List.getElem_take] at e
  exact hn j _ (by omega) (List.getElem?_eq_getElem (by omega)) e
theorem not_nodup {zs : List Int} {i j : Nat} {z : Int} (hj : j < i) (h1 : zs[j]? = some z) (h2 : zs[i]? = some z) : ¬ zs.Nodup := fun h => by
  obtain ⟨a1, b1⟩ := List.getElem?_eq_some_iff.1 h1
  obtain ⟨a2, b2⟩ := List.getElem?_eq_some_iff.1 h2
  have := (List.pairwise_iff_getElem.1 h) j i a1 a2 hj
  exact this (b1.trans b2.symm)

set_option maxRecDepth 100000 in
set_option maxHeartbeats 4000000 in
theorem rtwice_any (A : Option Addr) (n c : Nat) (zs : List Int) (w : World) (hl : RdN w A n zs) :
    Calls Try.prog 12 #[.slice A n c] w fun e w' => e = .returned (.bool (twT zs)) ∧ Ext w w' := by
  have HL := Lib.hid hl
  have hn := hl.2.1
  have hlen := Lib.hid hl.1
  unfold B47 at hn
  clear hl
  go_enter Try.func12, Try.ntmps12
  go_wp2
  go_loopw [3] (fun i wr => ∃ i' : Nat, i = .int .i64 i' ∧ i' ≤ n ∧ Ext w wr ∧ Hid (zs.take i').Nodup) (fun i _ => n - (intOf i).toNat)
  case atStart => exact ⟨0, rfl, Nat.zero_le _, Ext.rfl_ _, Lib.hid (by simp)⟩
  case round =>
    obtain ⟨i, rfl, hi, hE, HN⟩ := hrel
    by_cases cc : (i : Int) < (n : Int)
    rotate_left
    · have HR : Hid (false = twT zs) := Lib.hid (by
        have h := HN.out
        rw [List.take_of_length_le (by rw [hlen.out]; omega)] at h
        simp [twT, h])
      go_wp2
      go_ret
      exact ⟨ret_bool HR.out, hE⟩
    obtain ⟨b, o, z, rfl, hz, hI, hc⟩ := HL.out.at_ i (by omega)
    have HZ := Lib.hid hz
    have HC := Lib.hid hc
    clear hz hc hI
    go_wp2
    obtain ⟨wq, hwq⟩ : ∃ wq, wq = wr := ⟨_, rfl⟩
    have HEQ : Hid (Ext w wr) := Lib.hid hE
    clear hE hwq
    go_loopw [4] (fun k wr2 => ∃ k' : Nat, k = .int .i64 k' ∧ k' ≤ i ∧ Ext w wr2 ∧ Hid (∀ j u, j < k' → zs[j]? = some u → u ≠ z)) (fun k _ => i - (intOf k).toNat)
    case atStart => exact ⟨0, rfl, Nat.zero_le _, HEQ.out, Lib.hid (fun j u hj => absurd hj (by omega))⟩
    case round =>
      obtain ⟨k, rfl, hk, hE, HG⟩ := hrel
      by_cases c2 : (k : Int) < (i : Int)
      rotate_left
      · have HN2 : Hid (zs.take (i + 1)).Nodup := Lib.hid (nodup_take HN.out HZ.out (fun j u hj => HG.out j u (by omega)))
        go_wp2
        go_roundw
        case rel => exact ⟨i + 1, by simp, by omega, hE, HN2⟩
        case measure => simp [intOf]; omega
      obtain ⟨b', o', y, e', hy, _, hcy⟩ := HL.out.at_ k (by omega)
      cases e'
      have l1 := hE.keeps _ _ _ HC.out
      have l2 := hE.keeps _ _ _ hcy
      have HY := Lib.hid hy
      clear hy hcy
      by_cases hq : z = y
      · have HR : Hid (true = twT zs) := Lib.hid (by
          have h := not_nodup (j := k) (i := i) (by omega) HY.out (by rw [← hq]; exact HZ.out)
          simp [twT, h])
        have d1 : (z == y) = true := by simp [hq]
        clear hq
        go_wp2
        go_region
        all_goals
          go_wp2
          go_ret
          exact ⟨ret_bool HR.out, (by with_reducible (repeat (first | exact Ext.rfl_ _ | assumption | refine Ext.drew ?_ | refine Ext.drewN ?_ _ | refine Ext.alloc ?_ _ | refine Ext.trans ?_ (by assumption))))⟩
      · have d1 : (z == y) = false := by simp [hq]
        have HG2 : Hid (∀ j u, j < k + 1 → zs[j]? = some u → u ≠ z) := Lib.hid (fun j u hj hu => by
          by_cases e : j = k
          · subst e
            rw [HY.out] at hu
            cases hu
            exact fun e => hq e.symm
          · exact HG.out j u (by omega) hu)
        clear hq
        go_wp2
        go_region
        all_goals
          go_wp2
          go_roundw
          case rel => exact ⟨k + 1, by simp, by omega, (by with_reducible (repeat (first | exact Ext.rfl_ _ | assumption | refine Ext.drew ?_ | refine Ext.drewN ?_ _ | refine Ext.alloc ?_ _ | refine Ext.trans ?_ (by assumption)))), HG2⟩
          case measure => simp [intOf]; omega

end Go.Proofs.Yteooaplimiifiaa
