/- ikey.Sort. Conditions: the entries read; they are few. -/
import Derived.Test.YtpohmoakilioiaaSoF
namespace Go.Proofs.Ytpohmoakilioiaa
set_option linter.unusedSimpArgs false
set_option linter.unusedVariables false
set_option maxRecDepth 100000
open Go.RowKit

set_option maxRecDepth 100000 in
set_option maxHeartbeats 4000000 in
theorem isort_any (A : Option Addr) (n c : Nat) (xs : List Ent) (w : World) (hl : RdL w A n xs) (hnc : n ≤ c) (hn : n ≤ 1000000) :
    Calls Try.prog 44 #[.slice A n c] w fun e w' => ∃ v S, e = .returned v ∧ IsSrt xs S ∧ OwnF w' w.heap.size v S ∧ Ext w w' := by
  have HL := Lib.hid hl
  have hxl := hl.1
  clear hl
  go_enter Try.func44, Try.ntmps44
  go_wp2
  go_loopw [3, 8] (fun v i wr => ∃ k : Nat, k ≤ n ∧ i = .int .i64 k ∧ Ext w wr ∧ OwnF wr w.heap.size v (xs.take k)) (fun _ i _ => n - (intOf i).toNat)
  case atStart => exact ⟨0, Nat.zero_le _, rfl, Ext.rfl_ _, OwnF.nil _ _⟩
  case round =>
    obtain ⟨k, hk, rfl, hX, hF⟩ := hrel
    have HX := Lib.hid hX
    have HF := Lib.hid hF
    clear hX hF
    by_cases hlt : k < n
    · have hltI : (k : Int) < (n : Int) := by omega
      have hncI : (n : Int) ≤ (c : Int) := by omega
      have hjc2 : k < c := by omega
      obtain ⟨b, o, rfl, _⟩ := HL.out.2.2 (by omega)
      obtain ⟨A1, n1, c1, A2, n2, c2, hx, e0, e1, e2, e3, hry⟩ := r6at HL.out hlt HX.out
      obtain ⟨x, hxe⟩ : ∃ x, x = xs[k] := ⟨_, rfl⟩
      rw [← hxe] at e1 e2 hry
      have HXE := Lib.hid hxe
      have HR := Lib.hid (hry.ext HX.out)
      have HB := Lib.hid (blk1 wr (.cells #[.slice A1 n1 c1, .int .i64 x.seq, .int .i64 x.kind, .slice A2 n2 c2] 25))
      clear hry hxe
      go_wp2_with fail
      refine (copyF_any _ x _ (HR.out.ext (by with_reducible (repeat (first | exact Ext.rfl_ _ | assumption | refine Ext.drew ?_ | refine Ext.drewN ?_ _ | refine Ext.alloc ?_ _ | refine Ext.trans ?_ (by assumption)))))).mono ?_
      rintro e w1 ⟨v1, rfl, hf1, hw1⟩
      obtain ⟨A5, n5, c5, B5, m5, d5, rfl, hfe⟩ := frE_cells hf1
      have X1 := Lib.hid (HX.out.trans ((Ext.alloc (Ext.rfl_ wr) _).trans hw1))
      have HFE := Lib.hid (hfe.low (Nat.le_trans (Ext.size HX.out) (by rw [World.size_alloc]; omega)))
      have HF1 := Lib.hid (HF.out.ext ((Ext.alloc (Ext.rfl_ wr) _).trans hw1))
      clear hf1 hfe hw1 e0 e1 e2 e3
      go_wp2_with (first | (at_builtin; refine wp_appF rfl _ _ rfl w.heap.size _ (xs.take k) rfl w1 25 ⟨A5, n5, c5, B5, m5, d5⟩ x rfl HF1.out HFE.out _ rfl rfl (by rw [List.length_take]; omega) (Ext.size X1.out) ?_; intro v2 w2 o2 k2 g2; have Z2 := Lib.hid (Ext.grown (X1.out.trans (Ext.alloc (Ext.rfl_ w1) _)) g2 (fun q hq => (HF1.out.lt q hq).1)); have O2 := Lib.hid o2; clear o2 k2 g2))
      go_roundw
      case rel =>
        refine ⟨k + 1, by omega, by go_num, Z2.out, ?_⟩
        rw [take_at hx, ← HXE.out]; exact O2.out
      case measure => simp [intOf]; omega
    · obtain rfl : k = n := by omega
      have htk : xs.take k = xs := List.take_of_length_le (by omega)
      rw [htk] at HF
      go_wp2_with fail
      refine (sortE_any w.heap.size _ xs _ HF.out (by omega)).mono ?_
      rintro e w1 ⟨rfl, S, hS, hO, hg⟩
      have X1 := Lib.hid (HX.out.grown hg (fun q hq => (HF.out.lt q hq).1))
      have HO := Lib.hid hO
      clear hO hg
      go_wp2
      go_ret
      exact ⟨_, S, rfl, hS, HO.out, X1.out⟩

end Go.Proofs.Ytpohmoakilioiaa
