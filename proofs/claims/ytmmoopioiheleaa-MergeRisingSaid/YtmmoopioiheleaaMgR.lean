/- The reference of merge: Order, Less. Conditions: the entries read. -/
import Derived.Test.YtmmoopioiheleaaRefA
import Derived.Test.YtmmoopioiheleaaKeyA
import Derived.BigQuiet
namespace Go.Proofs.Ytmmoopioiheleaa
set_option linter.unusedSimpArgs false
set_option linter.unusedVariables false
open Go.RowKit

theorem cmpE_key {x y : Ent} (h : cmpK x.key y.key ≠ 0) : cmpE x y = cmpK x.key y.key := by unfold cmpE orI; rw [if_neg h]
theorem cmpE_seq {x y : Ent} (h : cmpK x.key y.key = 0) : cmpE x y = cmpI y.seq x.seq := by unfold cmpE orI; rw [if_pos h]

set_option maxRecDepth 100000 in
set_option maxHeartbeats 4000000 in
theorem order_any (u v : Value) (x y : Ent) (w : World) (hx : RdE w u x) (hy : RdE w v y) :
    Calls Try.prog 27 #[u, v] w fun e w' => e = .returned (.int .i64 (cmpE x y)) ∧ Ext w w' := by
  obtain ⟨A, n, c, A', n', c', rfl, hx1, _, _, hn, _, _⟩ := hx
  obtain ⟨B, m, d, B', m', d', rfl, hy1, _, _, hm, _, _⟩ := hy
  obtain ⟨W, hW⟩ : ∃ W, W = (w.alloc (.cells #[.slice A n c, .int .i64 x.seq, .int .i64 x.kind, .slice A' n' c'] 37)).alloc (.cells #[.slice B m d, .int .i64 y.seq, .int .i64 y.kind, .slice B' m' d'] 37) := ⟨_, rfl⟩
  obtain ⟨hb1, hb2⟩ := two_new w (.cells #[.slice A n c, .int .i64 x.seq, .int .i64 x.kind, .slice A' n' c'] 37) (.cells #[.slice B m d, .int .i64 y.seq, .int .i64 y.kind, .slice B' m' d'] 37)
  rw [← hW] at hb1 hb2
  have hxW : Ext w W := by rw [hW]; exact (by with_reducible (repeat (first | exact Ext.rfl_ _ | assumption | refine Ext.drew ?_ | refine Ext.drewN ?_ _ | refine Ext.alloc ?_ _ | refine Ext.trans ?_ (by assumption))))
  have HS : Hid (∀ Z, Ext W Z → (Z.cell? ⟨w.heap.size, 0, none⟩ = some (.slice A n c) ∧ Z.cell? ⟨w.heap.size, 1, none⟩ = some (.int .i64 x.seq)) ∧ (Z.cell? ⟨w.heap.size + 1, 0, none⟩ = some (.slice B m d) ∧ Z.cell? ⟨w.heap.size + 1, 1, none⟩ = some (.int .i64 y.seq))) := Lib.hid fun Z K =>
    ⟨⟨(box4 hb1 K).1, (box4 hb1 K).2.1⟩, ⟨(box4 hb2 K).1, (box4 hb2 K).2.1⟩⟩
  have HX := Lib.hid (hx1.ext hxW)
  have HY := Lib.hid (hy1.ext hxW)
  have e1 := Lib.hid hx1.1
  have e2 := Lib.hid hy1.1
  have HXW := Lib.hid hxW
  unfold B47 at hn hm
  clear hx1 hy1 hb1 hb2 hxW
  go_enter Try.func27, Try.ntmps27
  go_wp2
  rw [← hW]
  clear hW
  go_loopw [5] (fun i wr => ∃ k : Nat, k ≤ n ∧ k ≤ m ∧ i = .int .i64 k ∧ Hid (x.key.take k = y.key.take k) ∧ Ext W wr) (fun i _ => n - (intOf i).toNat)
  case atStart => exact ⟨0, Nat.zero_le _, Nat.zero_le _, rfl, Lib.hid rfl, Ext.rfl_ _⟩
  case round =>
    obtain ⟨k, hk1, hk2, rfl, HT, hE⟩ := hrel
    obtain ⟨⟨s1, s2⟩, s3, s4⟩ := HS.out _ hE
    by_cases c1 : (k : Int) < (n : Int)
    · by_cases c2 : (k : Int) < (m : Int)
      · obtain ⟨b, o, rfl, hc⟩ := HX.out.at_ (by omega)
        obtain ⟨b', o', rfl, hc'⟩ := HY.out.at_ (by omega)
        have g1 := hE.keeps _ _ _ (hc k (by rw [e1.out]; omega))
        have g2 := hE.keeps _ _ _ (hc' k (by rw [e2.out]; omega))
        clear hc hc'
        obtain ⟨p, hp⟩ : ∃ p, p = x.key[k]'(by rw [e1.out]; omega) := ⟨_, rfl⟩
        obtain ⟨q, hq⟩ : ∃ q, q = y.key[k]'(by rw [e2.out]; omega) := ⟨_, rfl⟩
        rw [← hp] at g1
        rw [← hq] at g2
        have HP := Lib.hid hp
        have HQ := Lib.hid hq
        clear hp hq
        have hdx : x.key.drop k = p :: x.key.drop (k + 1) := by rw [HP.out]; exact List.drop_eq_getElem_cons (by rw [e1.out]; omega)
        have hdy : y.key.drop k = q :: y.key.drop (k + 1) := by rw [HQ.out]; exact List.drop_eq_getElem_cons (by rw [e2.out]; omega)
        have hcm : cmpK x.key y.key = if p < q then -1 else if q < p then 1 else cmpK (x.key.drop (k + 1)) (y.key.drop (k + 1)) := by
          rw [cmpK_take k (by rw [e1.out]; omega) (by rw [e2.out]; omega) HT.out, hdx, hdy, cmpK_cons]
        have HC := Lib.hid hcm
        clear hcm hdx hdy
        by_cases b1 : (p.toNat : Int) < (q.toNat : Int)
        · have hr : (-1 : Int) = cmpE x y := by
            have h1 : cmpK x.key y.key = -1 := by rw [HC.out, if_pos (UInt8.lt_iff_toNat_lt.2 (by omega))]
            rw [cmpE_key (by omega), h1]
          have HR := Lib.hid hr
          have bn : ((p.toNat : Int) != (q.toNat : Int)) = true := by simp; omega
          clear hr
          go_wp2
          go_quiet (fail)
          obtain ⟨⟨s1, s2⟩, s3, s4⟩ := HS.out _ (show Ext W _ from (by with_reducible (repeat (first | exact Ext.rfl_ _ | assumption | refine Ext.drew ?_ | refine Ext.drewN ?_ _ | refine Ext.alloc ?_ _ | refine Ext.trans ?_ (by assumption)))))
          go_wp2
          go_quiet (fail)
          go_wp2
          go_ret
          exact ⟨ret_int HR.out, HXW.out.trans (by with_reducible (repeat (first | exact Ext.rfl_ _ | assumption | refine Ext.drew ?_ | refine Ext.drewN ?_ _ | refine Ext.alloc ?_ _ | refine Ext.trans ?_ (by assumption))))⟩
        · have b1' : decide ((p.toNat : Int) < (q.toNat : Int)) = false := decide_eq_false b1
          by_cases b2 : (q.toNat : Int) < (p.toNat : Int)
          · have hr : (1 : Int) = cmpE x y := by
              have h1 : cmpK x.key y.key = 1 := by rw [HC.out, if_neg (fun h => b1 (by have := UInt8.lt_iff_toNat_lt.1 h; omega)), if_pos (UInt8.lt_iff_toNat_lt.2 (by omega))]
              rw [cmpE_key (by omega), h1]
            have HR := Lib.hid hr
            have bn : ((p.toNat : Int) != (q.toNat : Int)) = true := by simp; omega
            clear hr
            go_wp2
            go_quiet (fail)
            obtain ⟨⟨s1, s2⟩, s3, s4⟩ := HS.out _ (show Ext W _ from (by with_reducible (repeat (first | exact Ext.rfl_ _ | assumption | refine Ext.drew ?_ | refine Ext.drewN ?_ _ | refine Ext.alloc ?_ _ | refine Ext.trans ?_ (by assumption)))))
            go_wp2
            go_quiet (fail)
            go_wp2
            go_ret
            exact ⟨ret_int HR.out, HXW.out.trans (by with_reducible (repeat (first | exact Ext.rfl_ _ | assumption | refine Ext.drew ?_ | refine Ext.drewN ?_ _ | refine Ext.alloc ?_ _ | refine Ext.trans ?_ (by assumption))))⟩
          · have hpq : p = q := UInt8.toNat_inj.1 (by omega)
            have bn : ((p.toNat : Int) != (q.toNat : Int)) = false := by rw [hpq]; simp
            have ht : x.key.take (k + 1) = y.key.take (k + 1) := by
              rw [List.take_succ_eq_append_getElem (by rw [e1.out]; omega), List.take_succ_eq_append_getElem (by rw [e2.out]; omega), HT.out, ← HP.out, ← HQ.out, hpq]
            have HT2 := Lib.hid ht
            clear ht hpq
            go_wp2
            go_quiet (fail)
            go_wp2
            go_roundw
            case rel => exact ⟨k + 1, by omega, by omega, by simp, HT2, (by with_reducible (repeat (first | exact Ext.rfl_ _ | assumption | refine Ext.drew ?_ | refine Ext.drewN ?_ _ | refine Ext.alloc ?_ _ | refine Ext.trans ?_ (by assumption))))⟩
            case measure => simp [intOf]; omega
      · have hr : cmpK x.key y.key = cmpK (x.key.drop k) (y.key.drop k) := cmpK_take k (by rw [e1.out]; omega) (by rw [e2.out]; omega) HT.out
        obtain rfl : k = m := by omega
        have hy0 : y.key.drop k = [] := by rw [← e2.out]; simp
        have hxn : x.key.drop k ≠ [] := by simp [e1.out]; omega
        have h1 : (1 : Int) = cmpE x y := by
          have h2 : cmpK x.key y.key = 1 := by
            rw [hr, hy0]
            cases hxx : x.key.drop k with
            | nil => exact absurd hxx hxn
            | cons a t => rfl
          rw [cmpE_key (by omega), h2]
        have HR := Lib.hid h1
        clear hr hy0 hxn h1
        have c3 : (k : Int) < (n : Int) := c1
        have c4 : ¬ (n : Int) < (k : Int) := by omega
        go_wp2
        go_ret
        exact ⟨ret_int HR.out, HXW.out.trans (by with_reducible (repeat (first | exact Ext.rfl_ _ | assumption | refine Ext.drew ?_ | refine Ext.drewN ?_ _ | refine Ext.alloc ?_ _ | refine Ext.trans ?_ (by assumption))))⟩
    · obtain rfl : k = n := by omega
      have hr : cmpK x.key y.key = cmpK (x.key.drop k) (y.key.drop k) := cmpK_take k (by rw [e1.out]; omega) (by rw [e2.out]; omega) HT.out
      have hx0 : x.key.drop k = [] := by rw [← e1.out]; simp
      by_cases c2 : (k : Int) < (m : Int)
      · have hyn : y.key.drop k ≠ [] := by simp [e2.out]; omega
        have h1 : (-1 : Int) = cmpE x y := by
          have h2 : cmpK x.key y.key = -1 := by rw [hr, hx0, cmpK_nil, if_neg hyn]
          rw [cmpE_key (by omega), h2]
        have HR := Lib.hid h1
        clear hr hx0 hyn h1
        go_wp2
        go_ret
        exact ⟨ret_int HR.out, HXW.out.trans (by with_reducible (repeat (first | exact Ext.rfl_ _ | assumption | refine Ext.drew ?_ | refine Ext.drewN ?_ _ | refine Ext.alloc ?_ _ | refine Ext.trans ?_ (by assumption))))⟩
      · have hy0 : y.key.drop k = [] := by apply List.drop_eq_nil_of_le; rw [e2.out]; omega
        have h0 : cmpK x.key y.key = 0 := by rw [hr, hx0, hy0]; rfl
        have c3 : ¬ (m : Int) < (k : Int) := by omega
        have HE := Lib.hid (cmpE_seq h0)
        clear hr hx0 hy0 h0
        by_cases b1 : y.seq < x.seq
        · have HR : Hid ((-1 : Int) = cmpE x y) := Lib.hid (by rw [HE.out, cmpI, if_pos b1])
          go_wp2
          go_ret
          exact ⟨ret_int HR.out, HXW.out.trans (by with_reducible (repeat (first | exact Ext.rfl_ _ | assumption | refine Ext.drew ?_ | refine Ext.drewN ?_ _ | refine Ext.alloc ?_ _ | refine Ext.trans ?_ (by assumption))))⟩
        · by_cases b2 : x.seq < y.seq
          · have HR : Hid ((1 : Int) = cmpE x y) := Lib.hid (by rw [HE.out, cmpI, if_neg b1, if_pos b2])
            go_wp2
            go_ret
            exact ⟨ret_int HR.out, HXW.out.trans (by with_reducible (repeat (first | exact Ext.rfl_ _ | assumption | refine Ext.drew ?_ | refine Ext.drewN ?_ _ | refine Ext.alloc ?_ _ | refine Ext.trans ?_ (by assumption))))⟩
          · have HR : Hid ((0 : Int) = cmpE x y) := Lib.hid (by rw [HE.out, cmpI, if_neg b1, if_neg b2])
            go_wp2
            go_ret
            exact ⟨ret_int HR.out, HXW.out.trans (by with_reducible (repeat (first | exact Ext.rfl_ _ | assumption | refine Ext.drew ?_ | refine Ext.drewN ?_ _ | refine Ext.alloc ?_ _ | refine Ext.trans ?_ (by assumption))))⟩

set_option maxRecDepth 100000 in
set_option maxHeartbeats 1000000 in
theorem less_any (A B : Option Addr) (n c m d : Nat) (x y : Bs) (w : World) (hx : Rd w A n x) (hy : Rd w B m y) (hnc : n ≤ c) (hn : n ≤ B47) (hmd : m ≤ d) (hm : m ≤ B47) :
    Calls Try.prog 23 #[.slice A n c, .slice B m d] w fun e w' => e = .returned (.bool (decide (cmpK x y < 0))) ∧ Ext w w' := by
  have HX : Hid (RdE w (.agg #[.slice A n c, .int .i64 0, .int .i64 0, .slice none 0 0]) ⟨x, 0, 0, []⟩) := Lib.hid ⟨A, n, c, none, 0, 0, rfl, hx, Rd.nil _ _, hnc, hn, Nat.le_refl _, Nat.zero_le _⟩
  have HY : Hid (RdE w (.agg #[.slice B m d, .int .i64 0, .int .i64 0, .slice none 0 0]) ⟨y, 0, 0, []⟩) := Lib.hid ⟨B, m, d, none, 0, 0, rfl, hy, Rd.nil _ _, hmd, hm, Nat.le_refl _, Nat.zero_le _⟩
  have HC : Hid (cmpE ⟨x, 0, 0, []⟩ ⟨y, 0, 0, []⟩ = cmpK x y) := Lib.hid (by
    by_cases h : cmpK x y = 0
    · rw [cmpE_seq h, h]; rfl
    · exact cmpE_key h)
  clear hx hy
  go_enter Try.func23, Try.ntmps23
  go_wp2_with fail
  refine (order_any _ _ ⟨x, 0, 0, []⟩ ⟨y, 0, 0, []⟩ _ HX.out HY.out).mono ?_
  rintro e w1 ⟨rfl, hw1⟩
  rw [HC.out]
  go_wp2
  go_ret
  exact ⟨rfl, hw1⟩

end Go.Proofs.Ytmmoopioiheleaa
