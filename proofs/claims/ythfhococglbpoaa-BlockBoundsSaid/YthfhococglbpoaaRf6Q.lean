/- The reference's Get, From, Level, Bytes of layer 6; the law's put and few. Conditions: the list reads. -/
import Derived.Test.YthfhococglbpoaaRdQ
import Derived.Test.YthfhococglbpoaaInsP
import Derived.Test.YthfhococglbpoaaHtA
import Derived.Test.YthfhococglbpoaaRefC
import Derived.Test.YthfhococglbpoaaRefA
import Derived.Test.YthfhococglbpoaaWrLen
import Derived.Lib.ConvBytes
import Derived.BigQuiet
namespace Go.Proofs.Ythfhococglbpoaa
set_option linter.unusedSimpArgs false
set_option linter.unusedVariables false
open Go.RowKit

/-- The bytes that entries have. -/
def wB6 (xs : List Ent) : Nat := (xs.map fun x => (wrE x).length).sum
theorem r6at {w wr : World} {b o k n : Nat} {xs : List Ent} (h : RdL w (some ⟨b, o, none⟩) n xs) (hk : k < n) (e : Ext w wr) : ∃ A1 n1 c1 A2 n2 c2, ∃ (hx : k < xs.length), wr.cell? ⟨b, o + k * 4, none⟩ = some (.slice A1 n1 c1) ∧ wr.cell? ⟨b, o + k * 4 + 1, none⟩ = some (.int .i64 xs[k].seq) ∧ wr.cell? ⟨b, o + k * 4 + 2, none⟩ = some (.int .i64 xs[k].kind) ∧ wr.cell? ⟨b, o + k * 4 + 3, none⟩ = some (.slice A2 n2 c2) ∧
    RdE w (.agg #[.slice A1 n1 c1, .int .i64 xs[k].seq, .int .i64 xs[k].kind, .slice A2 n2 c2]) xs[k] := by
  obtain ⟨b', o', A1, n1, c1, A2, n2, c2, y, e1, hy, ⟨d0, d1, d2, d3⟩, hry⟩ := h.at_ k hk
  cases e1
  have hx : k < xs.length := by have := h.1; omega
  have hyk : xs[k] = y := by rw [List.getElem?_eq_getElem hx] at hy; exact Option.some.inj hy
  subst hyk
  exact ⟨A1, n1, c1, A2, n2, c2, hx, e.keeps _ _ _ d0, e.keeps _ _ _ d1, e.keeps _ _ _ d2, e.keeps _ _ _ d3, hry⟩

theorem RdL.drop {w : World} {b o n : Nat} {xs : List Ent} (h : RdL w (some ⟨b, o, none⟩) n xs) (k : Nat) (hk : k ≤ n) : RdL w (some ⟨b, o + k * 4, none⟩) (n - k) (xs.drop k) := by
  refine ⟨by rw [List.length_drop, h.1], Nat.le_trans (Nat.sub_le _ _) h.2.1, fun hn => ⟨b, o + k * 4, rfl, fun j hj => ?_⟩⟩
  have hj' : k + j < n := by rw [List.length_drop, h.1] at hj; omega
  obtain ⟨A1, n1, c1, A2, n2, c2, hx, e0, e1, e2, e3, hry⟩ := r6at h hj' (Ext.rfl_ w)
  have ea : o + k * 4 + j * 4 = o + (k + j) * 4 := by rw [Nat.add_mul]; omega
  simp only [List.getElem_drop]
  rw [ea]
  exact ⟨A1, n1, c1, A2, n2, c2, ⟨e0, e1, e2, e3⟩, hry⟩

set_option maxRecDepth 100000 in
set_option maxHeartbeats 2000000 in
theorem rfrom_any (A : Option Addr) (n c : Nat) (xs : List Ent) (B : Option Addr) (m d : Nat) (k : Bs) (w : World) (hl : RdL w A n xs) (hnc : n ≤ c) (hk : Rd w B m k) (hm : m ≤ B47) :
    Calls Try.prog 18 #[.slice A n c, .slice B m d] w fun e w' => (∃ A' n' c', e = .returned (.slice A' n' c') ∧ n' ≤ c' ∧ RdL w' A' n' (xs.dropWhile fun y => decide (cmpK y.key k < 0))) ∧ Ext w w' := by
  have HL := Lib.hid hl
  have HK := Lib.hid hk
  have hxl := hl.1
  have hn41 := hl.2.1
  unfold B41 at hn41
  clear hl hk
  go_enter Try.func18, Try.ntmps18
  go_wp2
  go_loopw [5] (fun i wr => ∃ j : Nat, j ≤ n ∧ i = .int .i64 j ∧ (∀ y ∈ xs.take j, decide (cmpK y.key k < 0) = true) ∧ Ext w wr) (fun i _ => n - (intOf i).toNat)
  case atStart => exact ⟨0, Nat.zero_le _, rfl, fun y hy => by simp at hy, Ext.rfl_ _⟩
  case round =>
    obtain ⟨j, hj, rfl, hal, hE⟩ := hrel
    by_cases hlt : j < n
    · have hltI : (j : Int) < (n : Int) := by omega
      have hncI : (n : Int) ≤ (c : Int) := by omega
      have hjc : (j : Int) ≤ (c : Int) := by omega
      have hjc2 : j < c := by omega
      obtain ⟨b, o, rfl, _⟩ := HL.out.2.2 (by omega)
      obtain ⟨A1, n1, c1, A2, n2, c2, hx, e0, e1, e2, e3, hry⟩ := r6at HL.out hlt hE
      obtain ⟨_, _, _, _, _, _, hv, hr1, _, _, h47, _⟩ := id hry
      cases hv
      have HR1 := Lib.hid (hr1.ext hE)
      have HE := Lib.hid hE
      have HAL := Lib.hid hal
      clear hry hr1 hE hal
      go_wp2_with fail
      refine (rcmpKeys_any _ _ _ _ _ _ xs[j].key k _ HR1.out (HK.out.ext HE.out) h47 hm).mono ?_
      rintro e w' ⟨rfl, hw'⟩
      have HW := Lib.hid (HE.out.trans (show Ext wr w' from (by with_reducible (repeat (first | exact Ext.rfl_ _ | assumption | refine Ext.drew ?_ | refine Ext.drewN ?_ _ | refine Ext.alloc ?_ _ | refine Ext.trans ?_ (by assumption))))))
      clear hw'
      by_cases hc : cmpK xs[j].key k < 0
      · have HC := Lib.hid hc
        have hc' : ¬ 0 ≤ cmpK xs[j].key k := by omega
        clear hc
        go_wp2
        go_roundw
        case rel =>
          refine ⟨j + 1, by omega, by go_num, ?_, HW.out⟩
          rw [List.take_succ_eq_append_getElem hx]
          intro z hz
          rcases List.mem_append.1 hz with h | h
          · exact HAL.out z h
          · obtain rfl : z = xs[j] := by simpa using h
            exact decide_eq_true HC.out
        case measure => simp [intOf]; omega
      · have HC := Lib.hid hc
        have hc' : 0 ≤ cmpK xs[j].key k := by omega
        clear hc
        obtain ⟨_, hD⟩ := span_at (p := fun y => decide (cmpK y.key k < 0)) (xs := xs) (k := j) (by omega) HAL.out (fun h' => decide_eq_false HC.out)
        have HD := Lib.hid hD
        clear hD
        go_wp2
        go_ret
        refine ⟨⟨_, _, _, rfl, by omega, ?_⟩, HW.out⟩
        rw [HD.out]
        exact (HL.out.drop j (by omega)).ext HW.out
    · have hjn : j = n := by omega
      obtain ⟨_, hD⟩ := span_at (p := fun y => decide (cmpK y.key k < 0)) (xs := xs) (k := j) (by omega) hal (fun h' => by omega)
      rw [hjn, ← hxl, List.drop_length] at hD
      have HD := Lib.hid hD
      have HE := Lib.hid hE
      have hltI : ¬ (j : Int) < (n : Int) := by omega
      clear hD hE hal hjn
      go_wp2
      go_ret
      refine ⟨⟨_, _, _, rfl, Nat.le_refl _, ?_⟩, HE.out⟩
      rw [HD.out]
      exact RdL.nil _ _

end Go.Proofs.Ythfhococglbpoaa
