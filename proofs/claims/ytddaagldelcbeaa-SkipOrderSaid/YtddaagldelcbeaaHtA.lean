/- Heights: skip.Height, the reference's. Conditions: the key reads. -/
import Derived.Test.YtddaagldelcbeaaHtM
import Derived.Test.YtddaagldelcbeaaKeyA
namespace Go.Proofs.Ytddaagldelcbeaa
set_option linter.unusedSimpArgs false
set_option linter.unusedVariables false
open Go.RowKit
attribute [local irreducible] hsK mixH

set_option maxRecDepth 100000 in
set_option maxHeartbeats 1000000 in
theorem mix_any (g h c : Nat) (w : World) (hh : h < 4294967296) (hc : c < 256) (hg : w.cell? ⟨g, 0, none⟩ = some (.int .u32 h)) (hf : w.frozen? ⟨g, 0, none⟩ = false) :
    Calls Try.prog 37 #[.int .u8 c, .pointer (some ⟨g, 0, none⟩)] w fun e w' => e = .returned (.tuple #[]) ∧ w' = w.setCell ⟨g, 0, none⟩ (.int .u32 (mixH h c : Nat)) := by
  have e := u32_mix h c hh hc
  rw [IntKind.wrap_u32] at e
  go_enter Try.func37, Try.ntmps37
  go_wp2
  go_end0
  exact ⟨rfl, rfl⟩

set_option maxRecDepth 100000 in
set_option maxHeartbeats 1000000 in
theorem rheight_any (A : Option Addr) (n c : Nat) (x : Bs) (s : Int) (w : World) (hx : Rd w A n x) (hn : n ≤ B47) :
    Calls Try.prog 12 #[.slice A n c, .int .i64 s] w fun e w' => e = .returned (.int .i64 (htH x s : Nat)) ∧ w' = w := by
  have e1 := hx.1
  unfold B47 at hn
  go_enter Try.func12, Try.ntmps12
  go_wp2
  go_loopw [5, 6] (fun h i wr => wr = w ∧ ∃ k : Nat, k ≤ n ∧ i = .int .i64 k ∧ h = .int .u32 (hsK (x.take k) : Nat)) (fun _ i _ => n - (intOf i).toNat)
  case atStart => exact ⟨rfl, 0, Nat.zero_le _, rfl, by rw [List.take_zero, hsK_nilI]⟩
  case round =>
    obtain ⟨rfl, k, hk, rfl, rfl⟩ := hrel
    by_cases hlt : k < n
    · have hlt' : (k : Int) < (n : Int) := by omega
      obtain ⟨b, o, rfl, hcl⟩ := hx.2 (by omega)
      have hck := hcl k (by omega)
      have hu := u32_mixm (hsK (x.take k)) (x[k]'(by omega)).toNat (hsK_lt _) (UInt8.toNat_lt _)
      have htk : x.take (k + 1) = x.take k ++ [x[k]'(by omega)] := List.take_succ_eq_append_getElem (by omega)
      go_wp2
      go_roundw
      case rel => exact ⟨(by first | rfl | trivial), k + 1, by omega, by go_num, by rw [hu, htk, hsK_snoc]⟩
      case measure => simp [intOf]; omega
    · obtain rfl : k = n := by omega
      have htk : x.take k = x := by rw [← e1, List.take_length]
      rw [htk]
      go_wp2
      go_loopw [5, 7] (fun h i w1 => w1 = wr ∧ ∃ j : Nat, j ≤ 8 ∧ i = .int .i64 (7 - j : Int) ∧ h = .int .u32 (hsS s (hsK x) j : Nat)) (fun _ i _ => (intOf i + 1).toNat)
      case atStart => exact ⟨rfl, 0, by omega, rfl, rfl⟩
      case round =>
        obtain ⟨rfl, j, hj, rfl, rfl⟩ := hrel
        by_cases hlt : j < 8
        · have hlt' : (0 : Int) ≤ 7 - (j : Int) := by omega
          have hu := u32_mixs (hsS s (hsK x) j) s (7 - j) (hsS_lt _ _ _ (hsK_lt _))
          go_wp2
          go_roundw
          case rel => exact ⟨(by first | rfl | trivial), j + 1, by omega, (by congr 1; omega), (by rw [hu, hsS])⟩
          case measure => simp [intOf]; omega
        · obtain rfl : j = 8 := by omega
          have hz := hsS_lt s (hsK x) 8 (hsK_lt _)
          have hr : htH x s = 1 + tow 7 (hsS s (hsK x) 8) := rfl
          generalize hsS s (hsK x) 8 = z at hz hr ⊢
          obtain ⟨tt, htt⟩ : ∃ t, t = tow 7 z := ⟨_, rfl⟩
          rw [← htt] at hr
          go_wp2
          go_loopw [5, 8] (fun h i w2 => w2 = wr ∧ ∃ (z i' : Nat), h = .int .u32 z ∧ i = .int .i64 (1 + i' : Int) ∧ i' ≤ 7 ∧ z < 4294967296 ∧ tt = i' + tow (7 - i') z) (fun _ i _ => (8 - intOf i).toNat)
          case atStart => exact ⟨rfl, z, 0, rfl, rfl, by omega, hz, (by rw [Nat.zero_add]; exact htt)⟩
          case round =>
            obtain ⟨rfl, z', i, rfl, rfl, hi, hz', hT⟩ := hrel
            by_cases h7 : i < 7
            · have h7' : (1 + (i : Int)) < 8 := by omega
              by_cases h4 : z' % 4 = 0
              · have h4' : (z' : Int) % 4 = 0 := by omega
                go_wp2
                go_roundw
                case rel => exact ⟨(by first | rfl | trivial), z' / 4, i + 1, (by first | rfl | (congr 1; omega)), (by first | rfl | (congr 1; omega) | go_num), by omega, by omega, tow_go h7 h4 hT⟩
                case measure => simp [intOf]; omega
              · have h4' : ¬ (z' : Int) % 4 = 0 := by omega
                have := tow_end (fun h => h4 h.2) hi hT
                go_wp2
                go_ret
                exact ⟨by rw [hr, this]; rfl, rfl⟩
            · obtain rfl : i = 7 := by omega
              have := tow_end (fun h => h7 h.1) hi hT
              go_wp2
              go_ret
              exact ⟨by rw [hr, this]; rfl, rfl⟩

set_option maxRecDepth 100000 in
set_option maxHeartbeats 1000000 in
theorem height_any (A : Option Addr) (n c : Nat) (x : Bs) (s : Int) (w : World) (hx : Rd w A n x) (hn : n ≤ B47) :
    Calls Try.prog 11 #[.slice A n c, .int .i64 s] w fun e w' => e = .returned (.int .i64 (htH x s : Nat)) ∧ Ext w w' := by
  have e1 := hx.1
  have HX := Lib.hid hx
  unfold B47 at hn
  have hmf : ∀ (fn : Fn) (first cap : Array Value) (w : World), (Instr.makeFunc fn first cap).run Try.prog w = .ok (.func fn first cap) w := fun _ _ _ _ => rfl
  have hb := heap_alloc_new w (.cells #[.int .u32 2166136261] 66)
  have hx0 : Ext w (w.alloc (.cells #[.int .u32 2166136261] 66)) := (by with_reducible (repeat (first | exact Ext.rfl_ _ | assumption | refine Ext.drew ?_ | refine Ext.drewN ?_ _ | refine Ext.alloc ?_ _ | refine Ext.trans ?_ (by assumption))))
  have h0 : w.heap.size < (w.alloc (.cells #[.int .u32 2166136261] 66)).heap.size := by simp
  go_enter Try.func11, Try.ntmps11
  go_wp2
  obtain ⟨g, hgw⟩ : ∃ g, g = w.heap.size := ⟨_, rfl⟩
  rw [← hgw] at hb
  rw [← hgw]
  have HG := Lib.hid hgw
  clear hgw
  have hc0 : (w.alloc (.cells #[.int .u32 2166136261] 66)).cell? ⟨g, 0, none⟩ = some (.int .u32 2166136261) := by unfold World.cell?; simp only [hb]; rfl
  have hf0 : (w.alloc (.cells #[.int .u32 2166136261] 66)).frozen? ⟨g, 0, none⟩ = false := by unfold World.frozen?; simp only [hb]; rfl
  go_loopw [8, 14] (fun _ i wr => ∃ k : Nat, k ≤ n ∧ i = .int .i64 k ∧ wr.cell? ⟨g, 0, none⟩ = some (.int .u32 (hsK (x.take k) : Nat)) ∧ wr.frozen? ⟨g, 0, none⟩ = false ∧ Ext w wr) (fun _ i _ => n - (intOf i).toNat)
  case atStart => exact ⟨0, Nat.zero_le _, rfl, by rw [List.take_zero, hsK_nilI]; exact hc0, hf0, hx0⟩
  case round =>
    obtain ⟨k, hk, rfl, hcw, hfw, hxw⟩ := hrel
    by_cases hlt : k < n
    · have hlt' : (k : Int) < (n : Int) := by omega
      have hxr := HX.out.ext hxw
      obtain ⟨b, o, rfl, hcl⟩ := hxr.2 (by omega)
      have hck := hcl k (by omega)
      have htk : x.take (k + 1) = x.take k ++ [x[k]'(by omega)] := List.take_succ_eq_append_getElem (by omega)
      go_wp2_with fail
      refine (mix_any g (hsK (x.take k)) (x[k]'(by omega)).toNat _ (hsK_lt _) (UInt8.toNat_lt _) hcw hfw).mono ?_
      rintro e w' ⟨rfl, hw'⟩
      go_wp2
      go_roundw
      case rel =>
        refine ⟨k + 1, by omega, by go_num, ?_, ?_, ?_⟩
        · rw [htk, hsK_snoc]; exact World.cell?_setCell_same' _ _ _ (by rw [hcw]; rfl)
        · rw [World.frozen?_setCell]; exact hfw
        · exact hxw.setCell (by show w.heap.size ≤ g; rw [HG.out]; exact Nat.le_refl _) _
      case measure => simp [intOf]; omega
    · obtain rfl : k = n := by omega
      have htk : x.take k = x := by rw [← e1, List.take_length]
      rw [htk] at hcw
      go_wp2
      go_loopw [9] (fun i wr => ∃ j : Nat, j ≤ 8 ∧ i = .int .i64 (56 - 8 * j : Int) ∧ wr.cell? ⟨g, 0, none⟩ = some (.int .u32 (hsS s (hsK x) j : Nat)) ∧ wr.frozen? ⟨g, 0, none⟩ = false ∧ Ext w wr) (fun i _ => (intOf i + 8).toNat)
      case atStart => exact ⟨0, by omega, rfl, hcw, hfw, hxw⟩
      case round =>
        obtain ⟨j, hj, rfl, hcw, hfw, hxw⟩ := hrel
        by_cases hlt : j < 8
        · have hlt' : (0 : Int) ≤ 56 - 8 * (j : Int) := by omega
          have hsb := seqB_int s (7 - j)
          rw [show 8 * (7 - j) = 56 - 8 * j by omega] at hsb
          go_wp2_with fail
          (try rw [hsb])
          refine (mix_any g (hsS s (hsK x) j) (seqB s (7 - j)) _ (hsS_lt _ _ _ (hsK_lt _)) (seqB_lt _ _) hcw hfw).mono ?_
          rintro e w' ⟨rfl, hw'⟩
          go_wp2
          go_roundw
          case rel =>
            refine ⟨j + 1, by omega, by go_num, ?_, ?_, ?_⟩
            · rw [hsS]; exact World.cell?_setCell_same' _ _ _ (by rw [hcw]; rfl)
            · rw [World.frozen?_setCell]; exact hfw
            · exact hxw.setCell (by show w.heap.size ≤ g; rw [HG.out]; exact Nat.le_refl _) _
          case measure => simp [intOf]; omega
        · obtain rfl : j = 8 := by omega
          have hz := hsS_lt s (hsK x) 8 (hsK_lt _)
          have hr : htH x s = 1 + tow 7 (hsS s (hsK x) 8) := rfl
          generalize hsS s (hsK x) 8 = z at hz hr hcw
          obtain ⟨tt, htt⟩ : ∃ t, t = tow 7 z := ⟨_, rfl⟩
          rw [← htt] at hr
          go_wp2
          go_loopw [10] (fun i wr => ∃ (z i' : Nat), wr.cell? ⟨g, 0, none⟩ = some (.int .u32 z) ∧ wr.frozen? ⟨g, 0, none⟩ = false ∧ Ext w wr ∧ i = .int .i64 (1 + i' : Int) ∧ i' ≤ 7 ∧ z < 4294967296 ∧ tt = i' + tow (7 - i') z) (fun i _ => (8 - intOf i).toNat)
          case atStart => exact ⟨z, 0, hcw, hfw, hxw, rfl, by omega, hz, (by rw [Nat.zero_add]; exact htt)⟩
          case round =>
            obtain ⟨z', i, hcw, hfw, hxw, rfl, hi, hz', hT⟩ := hrel
            have h3 := u32_and3 z' hz'
            by_cases h7 : i < 7
            · have h7' : (1 + (i : Int)) < 8 := by omega
              by_cases h4 : z' % 4 = 0
              · have h4' : ((z' % 4 : Nat) : Int) = 0 := by omega
                rw [h4'] at h3
                go_wp2
                go_roundw
                case rel =>
                  refine ⟨z' / 4, i + 1, ?_, ?_, hxw.setCell (by show w.heap.size ≤ g; rw [HG.out]; exact Nat.le_refl _) _, (by first | rfl | (congr 1; omega) | go_num), by omega, by omega, tow_go h7 h4 hT⟩
                  · exact World.cell?_setCell_same' _ _ _ (by rw [hcw]; rfl)
                  · rw [World.frozen?_setCell]; exact hfw
                case measure => simp [intOf]; omega
              · have h4' : ¬ ((z' % 4 : Nat) : Int) = 0 := by omega
                have := tow_end (fun h => h4 h.2) hi hT
                have h3f : ¬ bits .and .u32 (z' : Int) 3 = 0 := by rw [h3]; exact h4'
                clear h3 h4'
                go_wp2
                go_ret
                refine ⟨?_, hxw⟩
                show Ending.returned (.int .i64 (1 + (i : Int))) = _
                first | (rw [hr, this]; rfl) | (rw [hr, this]; done) | (rw [← htt, this]; rfl) | (rw [← htt, this]; done)
            · have h7' : ¬ (1 + (i : Int)) < 8 := by omega
              have := tow_end (fun h => h7 h.1) hi hT
              go_wp2
              go_ret
              refine ⟨?_, hxw⟩
              show Ending.returned (.int .i64 (1 + (i : Int))) = _
              first | (rw [hr, this]; rfl) | (rw [hr, this]; done) | (rw [← htt, this]; rfl) | (rw [← htt, this]; done)

end Go.Proofs.Ytddaagldelcbeaa
