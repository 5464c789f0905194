/- The walk of BlockWrites; contracts of the reference's CopyList and of the law's much. Conditions: the entries read. -/
import Derived.Test.YthfhococglbpoaaBlkK
import Derived.Test.YthfhococglbpoaaBlkR
import Derived.Test.YthfhococglbpoaaCopyF
namespace Go.Proofs.Ythfhococglbpoaa
set_option linter.unusedSimpArgs false
set_option linter.unusedVariables false
open Go.RowKit

/-- 'append(out, x)' of one entry of the call's own. -/
theorem wp_appF {ops : Array Oper} {rest : List Oper} {o : Oper} {a : Act} {w : World} {Q : Exit → Act → World → Prop} (hgd : o.guard = none) (s x : Operand)
    (ho : o.op = .call { callee := .builtin .append, args := #[s, x], argTypes := #[37, 37] })
    (base : Nat) (v : Value) (xs : List Ent) (hsv : a.eval s = v) (w0 : World) (t : TypeId) (h : Hdr) (y : Ent) (hw : w = w0.alloc (.cells #[.slice h.A h.n h.c, .int .i64 y.seq, .int .i64 y.kind, .slice h.B h.m h.d] t)) (hown : OwnF w0 base v xs) (hf : FrE w0 base (.agg (cellsE h y).toArray) y) (hx : a.eval x = .slice (some ⟨w0.heap.size, 0, none⟩) 1 1)
    (hsz : xs.length ≤ 4096) (hbase : base ≤ w0.heap.size)
    (hk : ∀ v' w', OwnF w' base v' (xs ++ [y]) → Kx 28 w0 w' → w.grownBy w' v.ownBlock → wpList Try.prog ops Q rest (a.put o.dst v') w') : wpList Try.prog ops Q (o :: rest) a w := by
  refine wpList_plain hgd fun K hK => ?_
  have hwt : Region.wanted o (yielded ops a.tmps) = true := by simp [Region.wanted, hgd]
  have h1 := step_appF (ops := ops) (E := True) (K := K) (Q := Q) hgd s x ho base v xs hsv w0 t h y hw hown hf hx hsz hbase (fun v' w' a1 a2 a3 => hK _ _ (hk v' w' a1 a2 a3))
  rw [if_pos hwt] at h1
  exact h1

set_option maxRecDepth 100000 in
set_option maxHeartbeats 2000000 in
theorem rcopyL_any (A : Option Addr) (n c : Nat) (xs : List Ent) (w : World) (hl : RdL w A n xs) (hnc : n ≤ c) (hn : n ≤ 4000) :
    Calls Try.prog 25 #[.slice A n c] w fun e w' => ∃ v', e = .returned v' ∧ OwnF w' w.heap.size v' xs ∧ Ext w w' := by
  have HL := Lib.hid hl
  have hxl := hl.1
  clear hl
  go_enter Try.func25, Try.ntmps25
  go_wp2
  go_loopw [3, 4] (fun v i wr => ∃ k : Nat, k ≤ n ∧ i = .int .i64 k ∧ Ext w wr ∧ OwnF wr w.heap.size v (xs.take k)) (fun _ i _ => n - (intOf i).toNat)
  case atStart => exact ⟨0, Nat.zero_le _, rfl, Ext.rfl_ _, OwnF.nil _ _⟩
  case round =>
    obtain ⟨k, hk, rfl, hX, hF⟩ := hrel
    have HX := Lib.hid hX
    have HF := Lib.hid hF
    clear hX hF
    by_cases hlt : k < n
    · have hltI : (k : Int) < (n : Int) := by omega
      have hncI : (n : Int) ≤ (c : Int) := by omega
      have hjc2 : k < c := by omega
      obtain ⟨b, o, rfl, _⟩ := HL.out.2.2 (by omega)
      obtain ⟨A1, n1, c1, A2, n2, c2, hx, e0, e1, e2, e3, hry⟩ := r6at HL.out hlt HX.out
      have HR := Lib.hid (hry.ext HX.out)
      clear hry
      go_wp2_with fail
      refine (rcopy_any _ xs[k] _ HR.out).mono ?_
      rintro e w1 ⟨v1, rfl, hf1, hw1⟩
      obtain ⟨A5, n5, c5, B5, m5, d5, rfl, hfe⟩ := frE_cells hf1
      have HFE := Lib.hid (hfe.low (Ext.size HX.out))
      have X1 := Lib.hid (HX.out.trans hw1)
      have HF1 := Lib.hid (HF.out.ext hw1)
      clear hf1 hfe hw1 e0 e1 e2 e3
      go_wp2_with (first | (at_builtin; refine wp_appF rfl _ _ rfl w.heap.size _ (xs.take k) rfl w1 28 ⟨A5, n5, c5, B5, m5, d5⟩ xs[k] rfl HF1.out HFE.out rfl (by rw [List.length_take]; omega) (Ext.size X1.out) ?_; intro v2 w2 o2 k2 g2; have Z2 := Lib.hid (Ext.grown (X1.out.trans (Ext.alloc (Ext.rfl_ w1) _)) g2 (fun q hq => (HF1.out.lt q hq).1)); have O2 := Lib.hid o2; clear o2 k2 g2))
      go_roundw
      case rel =>
        refine ⟨k + 1, by omega, by go_num, Z2.out, ?_⟩
        rw [take_at hx]; exact O2.out
      case measure => simp [intOf]; omega
    · obtain rfl : k = n := by omega
      have htk : xs.take k = xs := List.take_of_length_le (by omega)
      rw [htk] at HF
      go_wp2
      go_ret
      exact ⟨_, rfl, HF.out, HX.out⟩

/-- Entries of more than is gone through. -/
def mch (xs : List Ent) : Bool := decide (200000 < wt xs) || decide (1100 < xs.length)
set_option maxRecDepth 100000 in
theorem much_any (A : Option Addr) (n c : Nat) (xs : List Ent) (w : World) (hl : RdL w A n xs) (hnc : n ≤ c) :
    Calls Try.prog 23 #[.slice A n c] w fun e w' => e = .returned (.bool (mch xs)) ∧ Ext w w' := by
  have hxl := hl.1
  go_enter Try.func23, Try.ntmps23
  go_wp2_with fail
  refine (rmuch_any A n c 200000 xs _ hl (by decide)).mono ?_
  rintro e w1 ⟨rfl, hw1⟩
  by_cases h1 : 200000 < wt xs
  · have hr : true = mch xs := by unfold mch; rw [decide_eq_true h1]; rfl
    rw [decide_eq_true h1]
    have HR := Lib.hid hr
    clear hr h1
    go_wp2
    go_ret
    exact ⟨ret_b HR.out, hw1⟩
  · rw [decide_eq_false h1]
    by_cases h2 : (1100 : Int) < (n : Int)
    · have hr : true = mch xs := by unfold mch; rw [decide_eq_true (show 1100 < xs.length by omega), Bool.or_true]
      have HR := Lib.hid hr
      have d2 : decide ((1100 : Int) < (n : Int)) = true := decide_eq_true h2
      clear hr h1
      go_wp2
      go_ret
      exact ⟨ret_b HR.out, hw1⟩
    · have hr : false = mch xs := by unfold mch; rw [decide_eq_false h1, decide_eq_false (show ¬ 1100 < xs.length by omega)]; rfl
      have HR := Lib.hid hr
      have d2 : decide ((1100 : Int) < (n : Int)) = false := decide_eq_false h2
      have d3 : decide (1100 < n) = false := decide_eq_false (by omega)
      clear hr h1
      go_wp2
      go_ret
      exact ⟨ret_b HR.out, hw1⟩
theorem mch_no {xs : List Ent} (h : mch xs = false) : xs.length ≤ 1100 := by
  unfold mch at h
  simp at h
  exact h.2

set_option maxRecDepth 100000 in
set_option maxHeartbeats 4000000 in
theorem writes_walk (A : Option Addr) (n c : Nat) (xs : List Ent) (w : World) (hl : RdL w A n xs) (hnc : n ≤ c) :
    Calls Try.prog 7 #[.slice A n c] w fun e w' => e = .returned (.bool true) ∧ Ext w w' := by
  have HL := Lib.hid hl
  have hxl := hl.1
  clear hl
  go_enter Try.func7, Try.ntmps7
  go_wp2_with fail
  refine (much_any A n c xs _ HL.out hnc).mono ?_
  rintro e w1 ⟨rfl, hw1⟩
  have X1 := Lib.hid hw1
  clear hw1
  cases hm : mch xs with
  | true =>
    go_wp2_with fail
    refine (known_any _).mono ?_
    rintro e w2 ⟨rfl, hw2⟩
    go_wp2
    go_ret
    exact ⟨rfl, X1.out.trans hw2⟩
  | false =>
    have hlen := mch_no hm
    clear hm
    go_wp2_with fail
    refine (rcopyL_any A n c xs _ (HL.out.ext X1.out) hnc (by omega)).mono ?_
    rintro e w2 ⟨v2, rfl, o2, hw2⟩
    obtain ⟨A2, n2, c2, rfl, l2, r2, _⟩ := o2.ownL.formN (by unfold B41; omega)
    have HR2 := Lib.hid r2
    have X2 := Lib.hid (X1.out.trans hw2)
    clear o2 r2 hw2
    cases hmay : mayL xs with
    | false =>
      go_wp2_with fail
      refine (write_any A2 n2 c2 xs _ HR2.out l2).mono ?_
      rintro e w3 ⟨v3, rfl, o3, hw3⟩
      rw [if_neg (by rw [hmay]; simp)] at o3
      rw [if_neg (by rw [hmay]; simp)]
      obtain ⟨A3, n3, c3, rfl, l3, r3, _⟩ := o3.formN
      have HR3 := Lib.hid r3
      have X23 := Lib.hid hw3
      have X3 := Lib.hid (X2.out.trans hw3)
      have HM := Lib.hid hmay
      clear o3 r3 hw3 hmay
      go_wp2_with fail
      refine (rsameL_any A2 n2 c2 A n c xs xs _ (HR2.out.ext X23.out) (HL.out.ext X3.out)).mono ?_
      rintro e w4 ⟨rfl, hw4⟩
      rw [decide_eq_true rfl]
      have X4 := Lib.hid (X3.out.trans hw4)
      have HR4 := Lib.hid (HR3.out.ext hw4)
      clear hw4
      go_wp2_with fail
      refine (rmayL_any A n c xs _ (HL.out.ext X4.out) hnc).mono ?_
      rintro e w5 ⟨rfl, hw5⟩
      rw [HM.out]
      have X5 := Lib.hid (X4.out.trans hw5)
      have HR5 := Lib.hid (HR4.out.ext hw5)
      clear hw5 HR3 HR4
      have hn3 : n3 = 0 := HR5.out.1.symm
      subst hn3
      go_wp2_with fail
      refine (num_any _ _).mono ?_
      rintro e w6 ⟨rfl, rfl⟩
      go_wp2_with fail
      refine (size_blk A n c xs _ (HL.out.ext X5.out) hnc).mono ?_
      rintro e w7 ⟨rfl, hw7⟩
      rw [if_neg (by rw [HM.out]; simp)]
      go_wp2_with fail
      refine (known_any _).mono ?_
      rintro e w8 ⟨rfl, hw8⟩
      go_wp2
      go_ret
      exact ⟨rfl, X5.out.trans (hw7.trans hw8)⟩
    | true =>
      go_wp2_with fail
      refine (write_any A2 n2 c2 xs _ HR2.out l2).mono ?_
      rintro e w3 ⟨v3, rfl, o3, hw3⟩
      rw [if_pos hmay] at o3
      rw [if_pos hmay]
      obtain ⟨A3, n3, c3, rfl, l3, r3, _⟩ := o3.formN
      have HR3 := Lib.hid r3
      have X23 := Lib.hid hw3
      have X3 := Lib.hid (X2.out.trans hw3)
      have HM := Lib.hid hmay
      clear o3 r3 hw3 hmay
      go_wp2_with fail
      refine (rsameL_any A2 n2 c2 A n c xs xs _ (HR2.out.ext X23.out) (HL.out.ext X3.out)).mono ?_
      rintro e w4 ⟨rfl, hw4⟩
      rw [decide_eq_true rfl]
      have X4 := Lib.hid (X3.out.trans hw4)
      have HR4 := Lib.hid (HR3.out.ext hw4)
      clear hw4
      go_wp2_with fail
      refine (rmayL_any A n c xs _ (HL.out.ext X4.out) hnc).mono ?_
      rintro e w5 ⟨rfl, hw5⟩
      rw [HM.out]
      have X5 := Lib.hid (X4.out.trans hw5)
      have HR5 := Lib.hid (HR4.out.ext hw5)
      clear hw5 HR3 HR4
      go_wp2_with fail
      refine (rwriteB_any A n c xs _ (HL.out.ext X5.out) hnc HM.out).mono ?_
      rintro e w6 ⟨vb, va, rfl, ob, _, hw6⟩
      obtain ⟨Ab, nb, cb, rfl, lb, rb, _⟩ := ob.formN
      have X6 := Lib.hid (X5.out.trans hw6)
      have s1 := (HR5.out.ext hw6).str (P := Try.prog) c3 22 5 9 Try.underlying22 Try.underlying5 Try.underlying9
      have s2 := rb.str (P := Try.prog) cb 22 5 9 Try.underlying22 Try.underlying5 Try.underlying9
      have hnb : (blkB xs).length = nb := rb.1
      have HNB := Lib.hid hnb
      clear ob rb hw6 hnb
      go_wp2_with fail
      refine (num_any _ _).mono ?_
      rintro e w7 ⟨rfl, rfl⟩
      clear s1 s2
      go_wp2_with fail
      refine (size_blk A n c xs _ (HL.out.ext X6.out) hnc).mono ?_
      rintro e w7 ⟨rfl, hw7⟩
      rw [if_pos HM.out, HNB.out]
      have hnn : ((nb : Int) == (nb : Int)) = true := by simp
      go_wp2_with fail
      refine (known_any _).mono ?_
      rintro e w8 ⟨rfl, hw8⟩
      go_wp2
      go_ret
      exact ⟨rfl, X6.out.trans (hw7.trans hw8)⟩
end Go.Proofs.Ythfhococglbpoaa
