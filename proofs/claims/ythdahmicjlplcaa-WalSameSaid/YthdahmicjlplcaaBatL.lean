/- The law's own much: where it is false, the batches are few and small. Conditions: the batches read. -/
import Derived.Test.YthdahmicjlplcaaBatC
import Derived.BigQuiet
namespace Go.Proofs.Ythdahmicjlplcaa
set_option linter.unusedSimpArgs false
set_option linter.unusedVariables false
open Go.RowKit

def wtB (xs : List Bat) : Nat := (xs.map fun x => wt x.es).sum
theorem wtB_take {xs : List Bat} {k : Nat} {x : Bat} (h : xs[k]? = some x) : wtB (xs.take (k + 1)) = wtB (xs.take k) + wt x.es := by
  unfold wtB
  rw [List.take_add_one, h]
  simp
theorem wt_get {xs : List Ent} {k : Nat} {x : Ent} (h : xs[k]? = some x) : wt (xs.take (k + 1)) = wt (xs.take k) + (1 + x.key.length + x.val.length) := by
  unfold wt
  rw [List.take_add_one, h]
  simp [wtE]
theorem wtB_mem {xs : List Bat} {x : Bat} (h : x ∈ xs) : wt x.es ≤ wtB xs := by
  unfold wtB
  induction xs with
  | nil => cases h
  | cons y ys ih =>
    rw [List.map_cons, List.sum_cons]
    rcases List.mem_cons.1 h with rfl | h
    · omega
    · have := ih h; omega

/- How many bytes a batch has. -/
theorem numF_small {f n k : Nat} (h : n < 128 ^ k) (hk : 1 ≤ k) : (numF f n).length ≤ k := by
  induction f generalizing n k with
  | zero => simp [numF]
  | succ f ih =>
    unfold numF
    split
    · simpa using hk
    · rename_i hn
      rw [List.length_cons]
      by_cases h2 : 2 ≤ k
      · have e : 128 ^ k = 128 * 128 ^ (k - 1) := by
          conv => lhs; rw [show k = (k - 1) + 1 by omega, Nat.pow_succ, Nat.mul_comm]
        have := ih (n := n / 128) (k := k - 1) (by rw [e] at h; exact Nat.div_lt_of_lt_mul h) (by omega)
        omega
      · obtain rfl : k = 1 := by omega
        exact absurd h (by simpa using hn)
theorem numB_small {n : Nat} (k : Nat) (h : n < 128 ^ k) (hk : 1 ≤ k) : (numB n).length ≤ k := numF_small h hk
theorem lstE_few {e : Ent} (h : mayE e = true) : (lstE e).length ≤ 7 * wtE e := by
  obtain ⟨h1, h2, h3, h4, h5, h6⟩ := mayE_iff.1 h
  have a1 := numB_small (n := e.key.length) 1 (by omega) (by decide)
  have a2 := numB_small (n := e.seq.toNat) 5 (by omega) (by decide)
  have a3 := numB_small (n := e.kind.toNat) 1 (by omega) (by decide)
  have a4 := numB_small (n := e.val.length) 3 (by omega) (by decide)
  have he : (entB e).length ≤ 10 + e.key.length + e.val.length := by
    unfold entB bytB
    split <;> simp only [List.length_append, List.length_nil] <;> omega
  have a5 := numB_small (n := (entB e).length) 3 (by omega) (by decide)
  unfold lstE
  rw [wrE_yes h]
  unfold bytB wtE
  rw [List.length_append]
  omega
theorem lisB_few {xs : List Ent} (h : allMay xs = true) (hl : xs.length ≤ 65536) : (lisB xs).length ≤ 3 + 7 * wt xs := by
  have a1 := numB_small (n := xs.length) 3 (by omega) (by decide)
  have a2 : ((xs.map lstE).flatten).length ≤ 7 * wt xs := by
    clear hl a1
    induction xs with
    | nil => simp
    | cons x xs ih =>
      unfold allMay at h ih
      rw [List.all_cons, Bool.and_eq_true] at h
      have := lstE_few h.1
      have := ih h.2
      have e : wt (x :: xs) = wtE x + wt xs := by simp [wt]
      rw [List.map_cons, List.flatten_cons, List.length_append, e]
      omega
  unfold lisB
  rw [List.length_append]
  omega
theorem payB_len {x : Bat} (h : mayW x = true) (hw : wt x.es ≤ 60000) : (payB x).length ≤ 11 + 7 * wt x.es := by
  obtain ⟨h1, h2, h3, h4⟩ := mayW_iff.1 h
  have a1 := lisB_few h4 h3
  have a2 := numB_small (n := x.idx.toNat) 5 (by omega) (by decide)
  have a3 := numB_small (n := (lisB x.es).length) 3 (by omega) (by decide)
  unfold payB bytB
  simp only [List.length_append]
  omega
theorem payB_may {x : Bat} (h : mayW x = true) (hw : wt x.es ≤ 60000) : mayF (payB x).length = true := by
  have := payB_len h hw
  have := fpay_pos x
  unfold mayF
  simp
  omega
theorem wrW_len {x : Bat} (hw : wt x.es ≤ 60000) : (wrW x).length ≤ 19 + 7 * wt x.es := by
  unfold wrW
  split
  · rename_i h
    have := payB_len h.1 hw
    rw [frm_len]
    omega
  · simp
theorem wt_len (xs : List Ent) : xs.length ≤ wt xs := by
  induction xs with
  | nil => simp [wt]
  | cons x xs ih =>
    have e : wt (x :: xs) = wtE x + wt xs := by simp [wt]
    rw [e, List.length_cons]
    unfold wtE
    omega
theorem wtB_one (x : Bat) : wtB [x] = wt x.es := by simp [wtB]

/-- A slice of batches of any length that reads as xs. -/
def RdLW (w : World) (A : Option Addr) (n : Nat) (xs : List Bat) : Prop :=
  xs.length = n ∧ n ≤ B47 ∧ (0 < n → ∃ b o, A = some ⟨b, o, none⟩ ∧ ∀ k (h : k < xs.length), ∃ A1 n1 c1, w.cell? ⟨b, o + k * 2, none⟩ = some (.int .i64 xs[k].idx) ∧ w.cell? ⟨b, o + k * 2 + 1, none⟩ = some (.slice A1 n1 c1) ∧ RdL w A1 n1 xs[k].es ∧ n1 ≤ c1)
theorem RdLW.nil (w : World) (A : Option Addr) : RdLW w A 0 [] := ⟨rfl, Nat.zero_le _, fun h => absurd h (by omega)⟩
theorem RdLW.rd {w : World} {A : Option Addr} {n : Nat} {xs : List Bat} (h : RdLW w A n xs) (hn : n ≤ B41) : RdLB w A n xs := ⟨h.1, hn, h.2.2⟩
theorem RdLB.wide {w : World} {A : Option Addr} {n : Nat} {xs : List Bat} (h : RdLB w A n xs) : RdLW w A n xs := ⟨h.1, Nat.le_trans h.2.1 (by decide), h.2.2⟩
theorem RdLW.ext {w w' : World} {A : Option Addr} {n : Nat} {xs : List Bat} (h : RdLW w A n xs) (he : Ext w w') : RdLW w' A n xs :=
  ⟨h.1, h.2.1, fun hn => by
    obtain ⟨b, o, e, hc⟩ := h.2.2 hn
    refine ⟨b, o, e, fun k hk => ?_⟩
    obtain ⟨A1, n1, c1, h0, h1, h2, h3⟩ := hc k hk
    exact ⟨A1, n1, c1, he.keeps _ _ _ h0, he.keeps _ _ _ h1, h2.ext he, h3⟩⟩
theorem RdLW.at_ {w : World} {A : Option Addr} {n : Nat} {xs : List Bat} (h : RdLW w A n xs) (k : Nat) (hk : k < n) :
    ∃ b o A1 n1 c1 x, A = some ⟨b, o, none⟩ ∧ xs[k]? = some x ∧ w.cell? ⟨b, o + k * 2, none⟩ = some (.int .i64 x.idx) ∧ w.cell? ⟨b, o + k * 2 + 1, none⟩ = some (.slice A1 n1 c1) ∧ RdL w A1 n1 x.es ∧ n1 ≤ c1 := by
  obtain ⟨b, o, e, hc⟩ := h.2.2 (by omega)
  have hk' : k < xs.length := by rw [h.1]; exact hk
  obtain ⟨A1, n1, c1, h0, h1, h2, h3⟩ := hc k hk'
  exact ⟨b, o, A1, n1, c1, xs[k], e, List.getElem?_eq_getElem hk', h0, h1, h2, h3⟩

/-- What the law's much answers: false just where the batches are few and small. -/
def MuchE (xs : List Bat) (e : Ending) : Prop := ∃ r, e = .returned (.bool r) ∧ (r = false → xs.length ≤ 100 ∧ wtB xs ≤ 60000)
theorem MuchE.yes (xs : List Bat) : MuchE xs (.returned (.bool true)) := ⟨true, rfl, fun h => by cases h⟩
theorem MuchE.no {xs : List Bat} (h1 : xs.length ≤ 100) (h2 : wtB xs ≤ 60000) : MuchE xs (.returned (.bool false)) := ⟨false, rfl, fun _ => ⟨h1, h2⟩⟩

set_option maxRecDepth 100000 in
set_option maxHeartbeats 4000000 in
theorem much_any (A : Option Addr) (n c : Nat) (xs : List Bat) (w : World) (hl : RdLW w A n xs) :
    Calls Try.prog 9 #[.slice A n c] w fun e w' => MuchE xs e ∧ Ext w w' := by
  have HL := Lib.hid hl
  have hn := hl.2.1
  unfold B47 at hn
  clear hl
  go_enter Try.func9, Try.ntmps9
  go_wp2
  go_loopw [3, 4] (fun t i wr => ∃ N k : Nat, t = .int .i64 N ∧ i = .int .i64 k ∧ k ≤ n ∧ k ≤ 101 ∧ N ≤ 10000000 ∧ Hid (N = wtB (xs.take k) ∧ N ≤ 60000 * k) ∧ Ext w wr) (fun _ i _ => n - (intOf i).toNat)
  case atStart => exact ⟨0, 0, rfl, rfl, Nat.zero_le _, by omega, by omega, Lib.hid ⟨rfl, by omega⟩, Ext.rfl_ _⟩
  case round =>
    obtain ⟨N, k, rfl, rfl, hk, hk1, hN, h1, hE⟩ := hrel
    by_cases c1 : (k : Int) < (n : Int)
    · by_cases c2 : (k : Int) < 101
      · obtain ⟨b, o, A1, n1, c1', x, rfl, hx, q0, q1, hr, hc1⟩ := HL.out.at_ k (by omega)
        have g1 := hE.keeps _ _ _ q1
        have HR := Lib.hid hr
        have HX := Lib.hid hx
        have hn1 := hr.2.1
        unfold B41 at hn1
        clear q0 hr hx
        by_cases h5 : 60000 < wt x.es
        · have HD := Lib.hid (decide_eq_true h5 : decide (60000 < wt x.es) = true)
          clear h5
          go_wp2_with fail
          refine (rmuch_any A1 n1 c1' 60000 x.es _ (HR.out.ext (by with_reducible (repeat (first | exact Ext.rfl_ _ | assumption | refine Ext.drew ?_ | refine Ext.drewN ?_ _ | refine Ext.alloc ?_ _ | refine Ext.trans ?_ (by assumption))))) (by omega)).mono ?_
          rintro e w4 ⟨rfl, hw4⟩
          rw [HD.out]
          go_wp2
          go_ret
          exact ⟨MuchE.yes xs, (by with_reducible (repeat (first | exact Ext.rfl_ _ | assumption | refine Ext.drew ?_ | refine Ext.drewN ?_ _ | refine Ext.alloc ?_ _ | refine Ext.trans ?_ (by assumption))))⟩
        · have H5 := Lib.hid h5
          have HD := Lib.hid (decide_eq_false h5 : decide (60000 < wt x.es) = false)
          clear h5
          go_wp2_with fail
          refine (rmuch_any A1 n1 c1' 60000 x.es _ (HR.out.ext (by with_reducible (repeat (first | exact Ext.rfl_ _ | assumption | refine Ext.drew ?_ | refine Ext.drewN ?_ _ | refine Ext.alloc ?_ _ | refine Ext.trans ?_ (by assumption))))) (by omega)).mono ?_
          rintro e w4 ⟨rfl, hw4⟩
          rw [HD.out]
          have X4 := Lib.hid (hE.trans hw4)
          clear hE hw4 g1
          go_wp2
          go_loopw [3, 5] (fun t i wr => ∃ M j : Nat, t = .int .i64 M ∧ i = .int .i64 j ∧ j ≤ n1 ∧ M ≤ 10000000 ∧ Hid (M = N + wt (x.es.take j)) ∧ Ext w wr) (fun _ i _ => n1 - (intOf i).toNat)
          case atStart => exact ⟨N, 0, rfl, rfl, Nat.zero_le _, by omega, Lib.hid rfl, X4.out⟩
          case round =>
            obtain ⟨M, j, rfl, rfl, hj, hM, h2, hE⟩ := hrel
            have g1 := hE.keeps _ _ _ q1
            by_cases c3 : (j : Int) < (n1 : Int)
            · obtain ⟨b', o', A2, n2, c2', A3, n3, c3', y, rfl, hy, ⟨p0, p1, p2, p3⟩, hs⟩ := HR.out.at_ j (by omega)
              obtain ⟨B, m, d, B', m', d', hv, r1, r2, _, b1, _, b2⟩ := hs
              simp at hv
              obtain ⟨⟨rfl, rfl, rfl⟩, rfl, rfl, rfl⟩ := hv
              have f0 := hE.keeps _ _ _ p0
              have f3 := hE.keeps _ _ _ p3
              have l1 := r1.1
              have l2 := r2.1
              have HT : Hid (wt (x.es.take (j + 1)) = wt (x.es.take j) + (1 + n2 + n3)) := Lib.hid (by rw [wt_get hy, l1, l2])
              have hw1 := wt_take_le x.es (j + 1)
              have HW : Hid (1 + n2 + n3 ≤ 60000) := Lib.hid (by have := HT.out; have := H5.out; omega)
              have hw2 : 1 + n2 + n3 ≤ 60000 := HW.out
              clear p0 p1 p2 p3 r1 r2 hy l1 l2 hw1 b1 b2
              go_wp2
              go_quiet (fail)
              go_wp2
              go_roundw
              case rel =>
                have e1 := h2.out
                have e2 := HT.out
                have e3 := H5.out
                have e4 := wt_take_le x.es (j + 1)
                have e5 := h1.out.2
                refine ⟨M + 1 + n2 + n3, j + 1, by go_num, by go_num, by omega, by omega, Lib.hid (by omega), (by with_reducible (repeat (first | exact Ext.rfl_ _ | assumption | refine Ext.drew ?_ | refine Ext.drewN ?_ _ | refine Ext.alloc ?_ _ | refine Ext.trans ?_ (by assumption))))⟩
              case measure => simp [intOf]; omega
            · go_wp2
              go_roundw
              case rel =>
                have e1 := h2.out
                have e2 := H5.out
                have e3 := h1.out
                have e4 : x.es.take j = x.es := List.take_of_length_le (by rw [HR.out.1]; omega)
                rw [e4] at e1
                refine ⟨M, k + 1, rfl, by go_num, by omega, by omega, hM, Lib.hid ⟨by rw [wtB_take HX.out]; omega, by omega⟩, (by with_reducible (repeat (first | exact Ext.rfl_ _ | assumption | refine Ext.drew ?_ | refine Ext.drewN ?_ _ | refine Ext.alloc ?_ _ | refine Ext.trans ?_ (by assumption))))⟩
              case measure => simp [intOf]; omega
      · have c4 : (100 : Int) < (n : Int) := by omega
        by_cases c3 : (60000 : Int) < (N : Int)
        · go_wp2
          go_ret
          exact ⟨MuchE.yes xs, (by with_reducible (repeat (first | exact Ext.rfl_ _ | assumption | refine Ext.drew ?_ | refine Ext.drewN ?_ _ | refine Ext.alloc ?_ _ | refine Ext.trans ?_ (by assumption))))⟩
        · go_wp2
          go_ret
          exact ⟨MuchE.yes xs, (by with_reducible (repeat (first | exact Ext.rfl_ _ | assumption | refine Ext.drew ?_ | refine Ext.drewN ?_ _ | refine Ext.alloc ?_ _ | refine Ext.trans ?_ (by assumption))))⟩
    · by_cases c3 : (60000 : Int) < (N : Int)
      · go_wp2
        go_ret
        exact ⟨MuchE.yes xs, (by with_reducible (repeat (first | exact Ext.rfl_ _ | assumption | refine Ext.drew ?_ | refine Ext.drewN ?_ _ | refine Ext.alloc ?_ _ | refine Ext.trans ?_ (by assumption))))⟩
      · by_cases c4 : (100 : Int) < (n : Int)
        · go_wp2
          go_ret
          exact ⟨MuchE.yes xs, (by with_reducible (repeat (first | exact Ext.rfl_ _ | assumption | refine Ext.drew ?_ | refine Ext.drewN ?_ _ | refine Ext.alloc ?_ _ | refine Ext.trans ?_ (by assumption))))⟩
        · have e0 : xs.take k = xs := List.take_of_length_le (by rw [HL.out.1]; omega)
          have HM : Hid (MuchE xs (.returned (.bool false))) := Lib.hid (MuchE.no (by rw [HL.out.1]; omega) (by have := h1.out.1; rw [e0] at this; omega))
          clear e0
          go_wp2
          go_ret
          exact ⟨HM.out, (by with_reducible (repeat (first | exact Ext.rfl_ _ | assumption | refine Ext.drew ?_ | refine Ext.drewN ?_ _ | refine Ext.alloc ?_ _ | refine Ext.trans ?_ (by assumption))))⟩

end Go.Proofs.Ythdahmicjlplcaa
