/- Contract of wire.Join. Conditions: the pieces read as bytes, all together within the reach. -/
import Derived.Test.YteooaplimiifiaaGreatWireA
namespace Go.Proofs.YteooaplimiifiaaGreat
set_option linter.unusedSimpArgs false
set_option linter.unusedVariables false
set_option maxRecDepth 100000
open Go.RowKit

/-- A slice of slices of bytes that reads as a list of lists. -/
def RdBB (w : World) (A : Option Addr) (n : Nat) (xs : List Bs) : Prop :=
  xs.length = n ∧ (0 < n → ∃ b o, A = some ⟨b, o, none⟩ ∧ ∀ j (h : j < xs.length), ∃ A' n' c', w.cell? ⟨b, o + j, none⟩ = some (.slice A' n' c') ∧ Rd w A' n' xs[j])

theorem RdBB.at_ {w : World} {A : Option Addr} {n : Nat} {xs : List Bs} (h : RdBB w A n xs) {k : Nat} (hk : k < n) :
    ∃ b o A' n' c' x, A = some ⟨b, o, none⟩ ∧ w.cell? ⟨b, o + k, none⟩ = some (.slice A' n' c') ∧ xs[k]? = some x ∧ Rd w A' n' x := by
  obtain ⟨b, o, e, hc⟩ := h.2 (by omega)
  have hkl : k < xs.length := by rw [h.1]; exact hk
  obtain ⟨A', n', c', h1, h2⟩ := hc k hkl
  exact ⟨b, o, A', n', c', xs[k], e, h1, List.getElem?_eq_getElem hkl, h2⟩

theorem RdBB.ext {w w' : World} {A : Option Addr} {n : Nat} {xs : List Bs} (h : RdBB w A n xs) (he : Ext w w') : RdBB w' A n xs :=
  ⟨h.1, fun hn => by
    obtain ⟨b, o, e, hc⟩ := h.2 hn
    refine ⟨b, o, e, fun j hj => ?_⟩
    obtain ⟨A', n', c', h1, h2⟩ := hc j hj
    exact ⟨A', n', c', he.keeps' h1, h2.ext he⟩⟩

def flen (xs : List Bs) (k : Nat) : Nat := (xs.take k).flatten.length
theorem flat_succ {xs : List Bs} {k : Nat} {x : Bs} (h : xs[k]? = some x) : (xs.take (k + 1)).flatten = (xs.take k).flatten ++ x := by
  have hk : k < xs.length := (List.getElem?_eq_some_iff.1 h).1
  have hx : xs[k] = x := (List.getElem?_eq_some_iff.1 h).2
  rw [List.take_succ_eq_append_getElem hk, hx]
  simp
theorem flen_succ {xs : List Bs} {k : Nat} {x : Bs} (h : xs[k]? = some x) : flen xs (k + 1) = flen xs k + x.length := by
  unfold flen; rw [flat_succ h, List.length_append]
theorem flen_le (xs : List Bs) (k : Nat) : flen xs k ≤ xs.flatten.length := by
  unfold flen
  conv => rhs; rw [← List.take_append_drop k xs]
  rw [List.flatten_append, List.length_append]
  omega

set_option maxRecDepth 100000 in
set_option maxHeartbeats 1000000 in
theorem join_any (A : Option Addr) (n c : Nat) (xs : List Bs) (w : World) (hx : RdBB w A n xs) (hn : n ≤ B40) (hs : xs.flatten.length ≤ B47) :
    Calls Tryz.prog 32 #[.slice A n c] w fun e w' => ∃ v', e = .returned v' ∧ OwnB w' w.heap.size v' xs.flatten ∧ Ext w w' := by
  obtain ⟨i0, hi, hz0, hz1, hz2⟩ := info_parts Tryz.info5x
  have hl := hx.1
  unfold B40 at hn
  have HX := Lib.hid hx
  have HL := Lib.hid hl
  have hs' := hs
  unfold B47 at hs'
  clear hx hl
  go_enter Tryz.func32, Tryz.ntmps32
  go_wp2
  go_loop [3, 11] (fun s i => ∃ k : Nat, k ≤ n ∧ i = .int .i64 k ∧ s = .int .i64 (flen xs k)) (fun _ i => n - (intOf i).toNat)
  case atStart => exact ⟨0, Nat.zero_le _, rfl, rfl⟩
  case round =>
    obtain ⟨k, hk, rfl, rfl⟩ := hrel
    by_cases hlt : k < n
    · obtain ⟨b, o, A', n', c', x, rfl, hc, hxk, hr⟩ := HX.out.at_ hlt
      have hfl := flen_succ hxk
      have hle := flen_le xs (k + 1)
      have hxl := hr.1
      have HF := Lib.hid hfl
      have HXL := Lib.hid hxl
      have hb : flen xs k + n' ≤ 140737488351232 := by omega
      clear hfl hxl hle hxk
      go_wp2
      go_round
      case rel => exact ⟨k + 1, by omega, by go_num, by rw [HF.out, HXL.out]; go_num⟩
      case measure => simp [intOf]; omega
    · obtain rfl : k = n := by omega
      have hf : flen xs k = xs.flatten.length := by unfold flen; rw [List.take_of_length_le (by rw [HL.out]; exact Nat.le_refl _)]
      have HF := Lib.hid hf
      have hfs : flen xs k ≤ 140737488351232 := by omega
      clear hf
      go_wp2_with (refine wpList_make_own _ rfl _ _ 35 rfl w.heap.size 5 i0 (.int .u8 0) 1 Tryz.underlying35 hi hz0 hz1 .i64 .i64 (flen xs k : Int) (flen xs k) rfl rfl rfl (by rw [hz2]; omega) (by unfold maxLen; omega) (Nat.le_refl _) ?_; intro w1 h1 h2)
      have hx1 : Ext w w1 := Ext.grown (Ext.rfl_ w) h2 (fun k hk => by cases hk)
      have HX1 := Lib.hid (HX.out.ext hx1)
      have h1' : OwnB w1 w.heap.size (.slice (some ⟨w.heap.size, 0, none⟩) 0 (flen xs k)) [] := h1
      go_loopw [6, 24] (fun v i wr => ∃ j : Nat, j ≤ k ∧ i = .int .i64 j ∧ OwnB wr w.heap.size v (xs.take j).flatten ∧ Ext w wr) (fun _ i _ => k - (intOf i).toNat)
      case atStart => exact ⟨0, Nat.zero_le _, rfl, h1', hx1⟩
      case round =>
        obtain ⟨j, hj, rfl, hown, hext⟩ := hrel
        by_cases hjk : j < k
        · obtain ⟨b, o, A', n', c', x, rfl, hc, hxk, hr⟩ := (HX.out.ext hext).at_ hjk
          have hfl := flat_succ hxk
          have hle := flen_le xs (j + 1)
          have hxl := hr.1
          have hcat : (xs.take j).flatten.length + x.length ≤ B47 := by
            have : flen xs (j + 1) = (xs.take j).flatten.length + x.length := by unfold flen; rw [hfl, List.length_append]
            omega
          have HFL := Lib.hid hfl
          have HC := Lib.hid hcat
          have hlb := hown.out.lt
          have HR := Lib.hid hr
          clear hfl hle hxl hxk hcat hr
          obtain ⟨y, hy⟩ : ∃ y, y = (xs.take j).flatten := ⟨_, rfl⟩
          have HY := Lib.hid hy
          rw [← hy] at hown
          clear hy
          go_wp2_with (refine wp_app rfl _ _ rfl w.heap.size _ y rfl hown A' n' c' x rfl HR.out (by rw [HY.out]; exact HC.out) (Ext.size hext) ?_; intro v3 w3 h5 h6)
          go_roundw
          case rel => exact ⟨j + 1, by omega, by go_num, by rw [HFL.out, ← HY.out]; exact h5, hext.grown h6 (fun k hk => (hlb k hk).1)⟩
          case measure => simp [intOf]; omega
        · obtain rfl : j = k := by omega
          have hall : (xs.take j).flatten = xs.flatten := by rw [List.take_of_length_le (by rw [HL.out]; exact Nat.le_refl _)]
          rw [hall] at hown
          clear hall
          go_wp2
          go_ret
          exact ⟨_, rfl, hown, hext⟩

end Go.Proofs.YteooaplimiifiaaGreat
