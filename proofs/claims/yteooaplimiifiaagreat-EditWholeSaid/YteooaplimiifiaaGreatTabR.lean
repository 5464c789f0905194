/- Contracts of edit.order and place and of the reference's Less, Ahead, Apart and Place. Conditions: the tables read. -/
import Derived.Test.YteooaplimiifiaaGreatTab
import Derived.RegionTactic
import Derived.BigRegion
import Derived.BigQuiet
namespace Go.Proofs.YteooaplimiifiaaGreat
set_option linter.unusedSimpArgs false
set_option linter.unusedVariables false
set_option maxRecDepth 100000
open Go.RowKit

theorem cmpK_takeT {x y : Bs} (k : Nat) (hx : k ≤ x.length) (hy : k ≤ y.length) (h : x.take k = y.take k) : cmpK x y = cmpK (x.drop k) (y.drop k) := by
  induction k generalizing x y with
  | zero => rfl
  | succ k ih =>
    cases x with
    | nil => simp at hx
    | cons a x =>
      cases y with
      | nil => simp at hy
      | cons b y =>
        simp only [List.take_succ_cons, List.cons.injEq] at h
        obtain ⟨rfl, h⟩ := h
        rw [cmpK_cons]
        simp only [List.drop_succ_cons]
        have h1 : ¬ a < a := by simp
        rw [if_neg h1, if_neg h1]
        exact ih (by simpa using hx) (by simpa using hy) h

/-- The box of a table. -/
def boxT (h0 h1 : Int) (A : Option Addr) (n c : Nat) (B : Option Addr) (m d : Nat) (s : Int) : Obj := .cells #[.int .i64 h0, .int .i64 h1, .slice A n c, .slice B m d, .int .i64 s] 42 (0, 0)

set_option maxRecDepth 100000 in
set_option maxHeartbeats 2000000 in
theorem order_any (xs ys : Array Value) (x y : Tab) (w : World) (hx : RdT w (.agg xs) x) (hy : RdT w (.agg ys) y) :
    Calls Tryz.prog 21 #[.agg xs, .agg ys] w fun e w' => e = .returned (.int .i64 (ordT x y)) ∧ w' = (w.alloc (.cells xs 42)).alloc (.cells ys 42) := by
  obtain ⟨A, n, c, A', n', c', hxs, hx1, _⟩ := hx
  obtain ⟨B, m, d, B', m', d', hys, hy1, _⟩ := hy
  cases hxs
  cases hys
  have HX := Lib.hid hx1
  have HY := Lib.hid hy1
  clear hx1 hy1
  by_cases c1 : x.lvl = y.lvl
  · have b1 : (x.lvl != y.lvl) = false := by simp [c1]
    by_cases c2 : x.lvl = 0
    · have b2 : (x.lvl == 0) = true := by simp [c2]
      have HR : Hid (cmpI y.num x.num = ordT x y) := Lib.hid (by unfold ordT; rw [if_neg (by simp [c1]), if_pos c2])
      clear c1 c2
      go_enter Tryz.func21, Tryz.ntmps21
      go_wp2_with fail
      refine (cmpInt_any _ _ _).mono ?_
      rintro e w1 ⟨rfl, rfl⟩
      go_wp2
      go_ret
      exact ⟨ret_int HR.out, rfl⟩
    · have b2 : (x.lvl == 0) = false := by simp [c2]
      have HR : Hid (cmpK x.fst y.fst = ordT x y) := Lib.hid (by unfold ordT; rw [if_neg (by simp [c1]), if_neg c2])
      clear c1 c2
      go_enter Tryz.func21, Tryz.ntmps21
      go_wp2_with fail
      refine (bcompare_any _ _ _ _ _ _ _ _ _ (HX.out.ext (by with_reducible (repeat (first | exact Ext.rfl_ _ | assumption | refine Ext.drew ?_ | refine Ext.drewN ?_ _ | refine Ext.alloc ?_ _ | refine Ext.trans ?_ (by assumption))))) (HY.out.ext (by with_reducible (repeat (first | exact Ext.rfl_ _ | assumption | refine Ext.drew ?_ | refine Ext.drewN ?_ _ | refine Ext.alloc ?_ _ | refine Ext.trans ?_ (by assumption)))))).mono ?_
      rintro e w1 ⟨rfl, rfl⟩
      go_wp2
      go_ret
      exact ⟨ret_int HR.out, rfl⟩
  · have b1 : (x.lvl != y.lvl) = true := by simp [c1]
    have HR : Hid (cmpI x.lvl y.lvl = ordT x y) := Lib.hid (by unfold ordT; rw [if_pos c1])
    clear c1
    go_enter Tryz.func21, Tryz.ntmps21
    go_wp2_with fail
    refine (cmpN_any _ _ _).mono ?_
    rintro e w1 ⟨rfl, rfl⟩
    go_wp2
    go_ret
    exact ⟨ret_int HR.out, rfl⟩

set_option maxRecDepth 100000 in
set_option maxHeartbeats 2000000 in
theorem rless_any (A B : Option Addr) (n c m d : Nat) (x y : Bs) (w : World) (hx : Rd w A n x) (hy : Rd w B m y) (hn : n ≤ B47) (hm : m ≤ B47) :
    Calls Tryz.prog 44 #[.slice A n c, .slice B m d] w fun e w' => e = .returned (.bool (decide (cmpK x y < 0))) ∧ Ext w w' := by
  have HX := Lib.hid hx
  have HY := Lib.hid hy
  have e1 := Lib.hid hx.1
  have e2 := Lib.hid hy.1
  unfold B47 at hn hm
  clear hx hy
  go_enter Tryz.func44, Tryz.ntmps44
  go_wp2
  go_loopw [5] (fun i wr => ∃ k : Nat, k ≤ n ∧ k ≤ m ∧ i = .int .i64 k ∧ Hid (x.take k = y.take k) ∧ Ext w wr) (fun i _ => n - (intOf i).toNat)
  case atStart => exact ⟨0, Nat.zero_le _, Nat.zero_le _, rfl, Lib.hid rfl, Ext.rfl_ _⟩
  case round =>
    obtain ⟨k, hk1, hk2, rfl, HT, hE⟩ := hrel
    by_cases c1 : (k : Int) < (n : Int)
    · by_cases c2 : (k : Int) < (m : Int)
      · obtain ⟨b, o, rfl, hc⟩ := HX.out.at_ (by omega)
        obtain ⟨b', o', rfl, hc'⟩ := HY.out.at_ (by omega)
        have g1 := hE.keeps _ _ _ (hc k (by rw [e1.out]; omega))
        have g2 := hE.keeps _ _ _ (hc' k (by rw [e2.out]; omega))
        clear hc hc'
        obtain ⟨p, hp⟩ : ∃ p, p = x[k]'(by rw [e1.out]; omega) := ⟨_, rfl⟩
        obtain ⟨q, hq⟩ : ∃ q, q = y[k]'(by rw [e2.out]; omega) := ⟨_, rfl⟩
        rw [← hp] at g1
        rw [← hq] at g2
        have HP := Lib.hid hp
        have HQ := Lib.hid hq
        clear hp hq
        have hdx : x.drop k = p :: x.drop (k + 1) := by rw [HP.out]; exact List.drop_eq_getElem_cons (by rw [e1.out]; omega)
        have hdy : y.drop k = q :: y.drop (k + 1) := by rw [HQ.out]; exact List.drop_eq_getElem_cons (by rw [e2.out]; omega)
        have hcm : cmpK x y = if p < q then -1 else if q < p then 1 else cmpK (x.drop (k + 1)) (y.drop (k + 1)) := by
          rw [cmpK_takeT k (by rw [e1.out]; omega) (by rw [e2.out]; omega) HT.out, hdx, hdy, cmpK_cons]
        have HC := Lib.hid hcm
        clear hcm hdx hdy
        by_cases b1 : (p.toNat : Int) < (q.toNat : Int)
        · have hr : true = decide (cmpK x y < 0) := by rw [HC.out, if_pos (UInt8.lt_iff_toNat_lt.2 (by omega))]; rfl
          have bn : ((p.toNat : Int) != (q.toNat : Int)) = true := by simp; omega
          have HR := Lib.hid hr
          clear hr
          go_wp2
          go_quiet (fail)
          go_wp2
          go_quiet (fail)
          go_wp2
          go_ret
          exact ⟨ret_bool HR.out, (by with_reducible (repeat (first | exact Ext.rfl_ _ | assumption | refine Ext.drew ?_ | refine Ext.drewN ?_ _ | refine Ext.alloc ?_ _ | refine Ext.trans ?_ (by assumption))))⟩
        · have b1' : decide ((p.toNat : Int) < (q.toNat : Int)) = false := decide_eq_false b1
          by_cases b2 : (q.toNat : Int) < (p.toNat : Int)
          · have hr : false = decide (cmpK x y < 0) := by rw [HC.out, if_neg (fun h => b1 (by have := UInt8.lt_iff_toNat_lt.1 h; omega)), if_pos (UInt8.lt_iff_toNat_lt.2 (by omega))]; rfl
            have bn : ((p.toNat : Int) != (q.toNat : Int)) = true := by simp; omega
            have HR := Lib.hid hr
            clear hr
            go_wp2
            go_quiet (fail)
            go_wp2
            go_quiet (fail)
            go_wp2
            go_ret
            exact ⟨ret_bool (by first | exact HR.out | (rw [← HR.out]; simp; omega)), (by with_reducible (repeat (first | exact Ext.rfl_ _ | assumption | refine Ext.drew ?_ | refine Ext.drewN ?_ _ | refine Ext.alloc ?_ _ | refine Ext.trans ?_ (by assumption))))⟩
          · have hpq : p = q := UInt8.toNat_inj.1 (by omega)
            have bn : ((p.toNat : Int) != (q.toNat : Int)) = false := by rw [hpq]; simp
            have ht : x.take (k + 1) = y.take (k + 1) := by
              rw [List.take_succ_eq_append_getElem (by rw [e1.out]; omega), List.take_succ_eq_append_getElem (by rw [e2.out]; omega), HT.out, ← HP.out, ← HQ.out, hpq]
            have HT2 := Lib.hid ht
            clear ht hpq
            go_wp2
            go_quiet (fail)
            go_wp2
            go_roundw
            case rel => exact ⟨k + 1, by omega, by omega, by simp, HT2, (by with_reducible (repeat (first | exact Ext.rfl_ _ | assumption | refine Ext.drew ?_ | refine Ext.drewN ?_ _ | refine Ext.alloc ?_ _ | refine Ext.trans ?_ (by assumption))))⟩
            case measure => simp [intOf]; omega
      · have hr : cmpK x y = cmpK (x.drop k) (y.drop k) := cmpK_takeT k (by rw [e1.out]; omega) (by rw [e2.out]; omega) HT.out
        obtain rfl : k = m := by omega
        have hy0 : y.drop k = [] := by rw [← e2.out]; simp
        have hxn : x.drop k ≠ [] := by simp [e1.out]; omega
        have h1 : false = decide (cmpK x y < 0) := by
          rw [hr, hy0]
          cases hxx : x.drop k with
          | nil => exact absurd hxx hxn
          | cons a t => rfl
        have HR := Lib.hid h1
        clear hr hy0 hxn h1
        have c3 : (k : Int) < (n : Int) := c1
        have c4 : ¬ (n : Int) < (k : Int) := by omega
        go_wp2
        go_ret
        exact ⟨ret_bool HR.out, (by with_reducible (repeat (first | exact Ext.rfl_ _ | assumption | refine Ext.drew ?_ | refine Ext.drewN ?_ _ | refine Ext.alloc ?_ _ | refine Ext.trans ?_ (by assumption))))⟩
    · obtain rfl : k = n := by omega
      have hr : cmpK x y = cmpK (x.drop k) (y.drop k) := cmpK_takeT k (by rw [e1.out]; omega) (by rw [e2.out]; omega) HT.out
      have hx0 : x.drop k = [] := by rw [← e1.out]; simp
      by_cases c2 : (k : Int) < (m : Int)
      · have hyn : y.drop k ≠ [] := by simp [e2.out]; omega
        have h1 : true = decide (cmpK x y < 0) := by rw [hr, hx0, cmpK_nil, if_neg hyn]; rfl
        have HR := Lib.hid h1
        clear hr hx0 hyn h1
        go_wp2
        go_ret
        exact ⟨ret_bool HR.out, (by with_reducible (repeat (first | exact Ext.rfl_ _ | assumption | refine Ext.drew ?_ | refine Ext.drewN ?_ _ | refine Ext.alloc ?_ _ | refine Ext.trans ?_ (by assumption))))⟩
      · have hy0 : y.drop k = [] := by apply List.drop_eq_nil_of_le; rw [e2.out]; omega
        have h0 : false = decide (cmpK x y < 0) := by rw [hr, hx0, hy0]; rfl
        have c3 : ¬ (m : Int) < (k : Int) := by omega
        have HR := Lib.hid h0
        clear hr hx0 hy0 h0
        go_wp2
        go_ret
        exact ⟨ret_bool HR.out, (by with_reducible (repeat (first | exact Ext.rfl_ _ | assumption | refine Ext.drew ?_ | refine Ext.drewN ?_ _ | refine Ext.alloc ?_ _ | refine Ext.trans ?_ (by assumption))))⟩

def aheadT (a b : Tab) : Bool := decide (ordT a b < 0)
def apartT (a b : Tab) : Bool := decide (cmpK a.lst b.fst < 0 ∨ cmpK b.lst a.fst < 0)
theorem cmpI_lt (a b : Int) : (cmpI a b < 0) ↔ a < b := by unfold cmpI; split <;> (try split) <;> simp <;> omega

set_option maxRecDepth 100000 in
set_option maxHeartbeats 2000000 in
theorem rahead_any (u v : Value) (x y : Tab) (w : World) (hx : RdT w u x) (hy : RdT w v y) :
    Calls Tryz.prog 16 #[u, v] w fun e w' => e = .returned (.bool (aheadT x y)) ∧ Ext w w' := by
  obtain ⟨A, n, c, A', n', c', rfl, hx1, _, _, hn, _⟩ := hx
  obtain ⟨B, m, d, B', m', d', rfl, hy1, _, _, hm, _⟩ := hy
  have HX := Lib.hid hx1
  have HY := Lib.hid hy1
  clear hx1 hy1
  by_cases c1 : x.lvl = y.lvl
  · have b1 : (x.lvl != y.lvl) = false := by simp [c1]
    by_cases c2 : x.lvl = 0
    · have b2 : (x.lvl == 0) = true := by simp [c2]
      have HR : Hid (decide (x.num > y.num) = aheadT x y) := Lib.hid (by unfold aheadT ordT; rw [if_neg (by simp [c1]), if_pos c2]; exact decide_eq_decide.2 (by rw [cmpI_lt]))
      clear c1 c2
      go_enter Tryz.func16, Tryz.ntmps16
      go_wp2
      go_ret
      exact ⟨ret_bool (by first | exact HR.out | (rw [← HR.out]; simp; done)), (by with_reducible (repeat (first | exact Ext.rfl_ _ | assumption | refine Ext.drew ?_ | refine Ext.drewN ?_ _ | refine Ext.alloc ?_ _ | refine Ext.trans ?_ (by assumption))))⟩
    · have b2 : (x.lvl == 0) = false := by simp [c2]
      have HR : Hid (decide (cmpK x.fst y.fst < 0) = aheadT x y) := Lib.hid (by unfold aheadT ordT; rw [if_neg (by simp [c1]), if_neg c2])
      clear c1 c2
      go_enter Tryz.func16, Tryz.ntmps16
      go_wp2_with fail
      refine (rless_any _ _ _ _ _ _ _ _ _ (HX.out.ext (by with_reducible (repeat (first | exact Ext.rfl_ _ | assumption | refine Ext.drew ?_ | refine Ext.drewN ?_ _ | refine Ext.alloc ?_ _ | refine Ext.trans ?_ (by assumption))))) (HY.out.ext (by with_reducible (repeat (first | exact Ext.rfl_ _ | assumption | refine Ext.drew ?_ | refine Ext.drewN ?_ _ | refine Ext.alloc ?_ _ | refine Ext.trans ?_ (by assumption))))) hn hm).mono ?_
      rintro e w1 ⟨rfl, hw1⟩
      go_wp2
      go_ret
      exact ⟨ret_bool HR.out, (by with_reducible (repeat (first | exact Ext.rfl_ _ | assumption | refine Ext.drew ?_ | refine Ext.drewN ?_ _ | refine Ext.alloc ?_ _ | refine Ext.trans ?_ (by assumption))))⟩
  · have b1 : (x.lvl != y.lvl) = true := by simp [c1]
    have HR : Hid (decide (x.lvl < y.lvl) = aheadT x y) := Lib.hid (by unfold aheadT ordT; rw [if_pos c1]; exact decide_eq_decide.2 (by rw [cmpI_lt]))
    clear c1
    go_enter Tryz.func16, Tryz.ntmps16
    go_wp2
    go_ret
    exact ⟨ret_bool (by first | exact HR.out | (rw [← HR.out]; simp; done)), (by with_reducible (repeat (first | exact Ext.rfl_ _ | assumption | refine Ext.drew ?_ | refine Ext.drewN ?_ _ | refine Ext.alloc ?_ _ | refine Ext.trans ?_ (by assumption))))⟩

set_option maxRecDepth 100000 in
set_option maxHeartbeats 2000000 in
theorem rapart_any (u v : Value) (x y : Tab) (w : World) (hx : RdT w u x) (hy : RdT w v y) :
    Calls Tryz.prog 17 #[u, v] w fun e w' => e = .returned (.bool (apartT x y)) ∧ Ext w w' := by
  obtain ⟨A, n, c, A', n', c', rfl, hx1, hx2, _, hn, _, hn', _⟩ := hx
  obtain ⟨B, m, d, B', m', d', rfl, hy1, hy2, _, hm, _, hm', _⟩ := hy
  obtain ⟨hb1, hb2⟩ := two_new w (.cells #[.int .i64 x.num, .int .i64 x.lvl, .slice A n c, .slice A' n' c', .int .i64 x.size] 42) (.cells #[.int .i64 y.num, .int .i64 y.lvl, .slice B m d, .slice B' m' d', .int .i64 y.size] 42)
  have HB1 := Lib.hid hb1
  have HB2 := Lib.hid hb2
  have HX := Lib.hid hx1
  have HX2 := Lib.hid hx2
  have HY := Lib.hid hy1
  have HY2 := Lib.hid hy2
  clear hx1 hy1 hx2 hy2 hb1 hb2
  by_cases c1 : cmpK x.lst y.fst < 0
  · have D1 := Lib.hid (decide_eq_true c1)
    have HR : Hid (true = apartT x y) := Lib.hid (by unfold apartT; exact (decide_eq_true (.inl c1)).symm)
    clear c1
    go_enter Tryz.func17, Tryz.ntmps17
    go_wp2_with fail
    refine (rless_any _ _ _ _ _ _ _ _ _ (HX2.out.ext (by with_reducible (repeat (first | exact Ext.rfl_ _ | assumption | refine Ext.drew ?_ | refine Ext.drewN ?_ _ | refine Ext.alloc ?_ _ | refine Ext.trans ?_ (by assumption))))) (HY.out.ext (by with_reducible (repeat (first | exact Ext.rfl_ _ | assumption | refine Ext.drew ?_ | refine Ext.drewN ?_ _ | refine Ext.alloc ?_ _ | refine Ext.trans ?_ (by assumption))))) hn' hm).mono ?_
    rintro e w1 ⟨rfl, hw1⟩
    rw [D1.out]
    go_wp2
    go_ret
    exact ⟨ret_bool HR.out, (by with_reducible (repeat (first | exact Ext.rfl_ _ | assumption | refine Ext.drew ?_ | refine Ext.drewN ?_ _ | refine Ext.alloc ?_ _ | refine Ext.trans ?_ (by assumption))))⟩
  · have D1 := Lib.hid (decide_eq_false c1)
    have HR : Hid (decide (cmpK y.lst x.fst < 0) = apartT x y) := Lib.hid (by unfold apartT; exact decide_eq_decide.2 (by simp [c1]))
    clear c1
    go_enter Tryz.func17, Tryz.ntmps17
    go_wp2_with fail
    refine (rless_any _ _ _ _ _ _ _ _ _ (HX2.out.ext (by with_reducible (repeat (first | exact Ext.rfl_ _ | assumption | refine Ext.drew ?_ | refine Ext.drewN ?_ _ | refine Ext.alloc ?_ _ | refine Ext.trans ?_ (by assumption))))) (HY.out.ext (by with_reducible (repeat (first | exact Ext.rfl_ _ | assumption | refine Ext.drew ?_ | refine Ext.drewN ?_ _ | refine Ext.alloc ?_ _ | refine Ext.trans ?_ (by assumption))))) hn' hm).mono ?_
    rintro e w1 ⟨rfl, hw1⟩
    rw [D1.out]
    obtain ⟨p0, p1, p2, p3, p4, _⟩ := box5 HB1.out (w' := w1) (by with_reducible (repeat (first | exact Ext.rfl_ _ | assumption | refine Ext.drew ?_ | refine Ext.drewN ?_ _ | refine Ext.alloc ?_ _ | refine Ext.trans ?_ (by assumption))))
    obtain ⟨q0, q1, q2, q3, q4, _⟩ := box5 HB2.out (w' := w1) (by with_reducible (repeat (first | exact Ext.rfl_ _ | assumption | refine Ext.drew ?_ | refine Ext.drewN ?_ _ | refine Ext.alloc ?_ _ | refine Ext.trans ?_ (by assumption))))
    go_wp2_with fail
    refine (rless_any _ _ _ _ _ _ _ _ _ (HY2.out.ext (by with_reducible (repeat (first | exact Ext.rfl_ _ | assumption | refine Ext.drew ?_ | refine Ext.drewN ?_ _ | refine Ext.alloc ?_ _ | refine Ext.trans ?_ (by assumption))))) (HX.out.ext (by with_reducible (repeat (first | exact Ext.rfl_ _ | assumption | refine Ext.drew ?_ | refine Ext.drewN ?_ _ | refine Ext.alloc ?_ _ | refine Ext.trans ?_ (by assumption))))) hm' hn).mono ?_
    rintro e w2 ⟨rfl, hw2⟩
    go_wp2
    go_ret
    exact ⟨ret_bool HR.out, (by with_reducible (repeat (first | exact Ext.rfl_ _ | assumption | refine Ext.drew ?_ | refine Ext.drewN ?_ _ | refine Ext.alloc ?_ _ | refine Ext.trans ?_ (by assumption))))⟩

set_option maxRecDepth 100000 in
set_option maxHeartbeats 4000000 in
theorem place_any (v : Value) (x : Tab) (w : World) (hx : RdT w v x) :
    Calls Tryz.prog 27 #[v] w fun e w' => e = .returned (.bool (placeT x)) ∧ Ext w w' := by
  obtain ⟨A, n, c, A', n', c', rfl, hx1, hx2, _, hn, _, hn', _⟩ := hx
  have l1 := hx1.1
  have l2 := hx2.1
  have HB := Lib.hid (heap_alloc_new w (.cells #[.int .i64 x.num, .int .i64 x.lvl, .slice A n c, .slice A' n' c', .int .i64 x.size] 42))
  have HX := Lib.hid hx1
  have HX2 := Lib.hid hx2
  have HN : Hid (∀ (h : ¬ (numT x.num 1 = true ∧ 0 ≤ x.lvl ∧ x.lvl < 4 ∧ keyT x.fst = true ∧ keyT x.lst = true ∧ cmpK x.fst x.lst ≤ 0 ∧ numT x.size 1 = true)), false = placeT x) := Lib.hid (by
    intro h; unfold placeT; symm; simp only [Bool.and_eq_false_iff, decide_eq_false_iff_not]
    by_cases a1 : numT x.num 1 = true <;> by_cases a2 : (0 ≤ x.lvl ∧ x.lvl < 4) <;> by_cases a3 : keyT x.fst = true <;> by_cases a4 : keyT x.lst = true <;> by_cases a5 : cmpK x.fst x.lst ≤ 0 <;> by_cases a6 : numT x.size 1 = true <;> simp_all)
  have HY : Hid ((numT x.num 1 = true ∧ 0 ≤ x.lvl ∧ x.lvl < 4 ∧ keyT x.fst = true ∧ keyT x.lst = true ∧ cmpK x.fst x.lst ≤ 0 ∧ numT x.size 1 = true) → true = placeT x) := Lib.hid (by
    rintro ⟨a1, a2, a3, a4, a5, a6, a7⟩; unfold placeT; simp [a1, a2, a3, a4, a5, a6, a7])
  clear hx1 hx2
  by_cases c0 : numT x.num 1 = true
  rotate_left
  · have n0 : numT x.num 1 = false := by simpa using c0
    have HR : Hid (false = placeT x) := Lib.hid (HN.out (fun h => by exact c0 h.1))
    skip
    go_enter Tryz.func27, Tryz.ntmps27
    go_wp2_with (first | (go_at_call 22; refine (enumber_any _ _ _).mono ?_; rintro e w1 ⟨rfl, rfl⟩; first | rw [n0] | rw [n6]) | (go_at_call_of 51 (Value.slice A n c); refine (key_any _ _ _ x.fst _ (HX.out.ext (by with_reducible (repeat (first | exact Ext.rfl_ _ | assumption | refine Ext.drew ?_ | refine Ext.drewN ?_ _ | refine Ext.alloc ?_ _ | refine Ext.trans ?_ (by assumption)))))).mono ?_; rintro e w1 ⟨rfl, rfl⟩; rw [n3]) | (go_at_call_of 51 (Value.slice A' n' c'); refine (key_any _ _ _ x.lst _ (HX2.out.ext (by with_reducible (repeat (first | exact Ext.rfl_ _ | assumption | refine Ext.drew ?_ | refine Ext.drewN ?_ _ | refine Ext.alloc ?_ _ | refine Ext.trans ?_ (by assumption)))))).mono ?_; rintro e w1 ⟨rfl, rfl⟩; rw [n4]) | (go_at_call 42; refine (bcompare_any _ _ _ _ _ _ x.fst x.lst _ (HX.out.ext (by with_reducible (repeat (first | exact Ext.rfl_ _ | assumption | refine Ext.drew ?_ | refine Ext.drewN ?_ _ | refine Ext.alloc ?_ _ | refine Ext.trans ?_ (by assumption))))) (HX2.out.ext (by with_reducible (repeat (first | exact Ext.rfl_ _ | assumption | refine Ext.drew ?_ | refine Ext.drewN ?_ _ | refine Ext.alloc ?_ _ | refine Ext.trans ?_ (by assumption)))))).mono ?_; rintro e w1 ⟨rfl, rfl⟩))
    go_ret
    exact ⟨ret_bool (by first | exact HR.out | (rw [← HR.out]; simp; omega)), (by with_reducible (repeat (first | exact Ext.rfl_ _ | assumption | refine Ext.drew ?_ | refine Ext.drewN ?_ _ | refine Ext.alloc ?_ _ | refine Ext.trans ?_ (by assumption))))⟩
  have n0 := c0
  by_cases c1 : 0 ≤ x.lvl
  rotate_left
  · have z1 : ¬ x.lvl ≥ 0 := c1
    have HR : Hid (false = placeT x) := Lib.hid (HN.out (fun h => by exact c1 h.2.1))
    skip
    go_enter Tryz.func27, Tryz.ntmps27
    go_wp2_with (first | (go_at_call 22; refine (enumber_any _ _ _).mono ?_; rintro e w1 ⟨rfl, rfl⟩; first | rw [n0] | rw [n6]) | (go_at_call_of 51 (Value.slice A n c); refine (key_any _ _ _ x.fst _ (HX.out.ext (by with_reducible (repeat (first | exact Ext.rfl_ _ | assumption | refine Ext.drew ?_ | refine Ext.drewN ?_ _ | refine Ext.alloc ?_ _ | refine Ext.trans ?_ (by assumption)))))).mono ?_; rintro e w1 ⟨rfl, rfl⟩; rw [n3]) | (go_at_call_of 51 (Value.slice A' n' c'); refine (key_any _ _ _ x.lst _ (HX2.out.ext (by with_reducible (repeat (first | exact Ext.rfl_ _ | assumption | refine Ext.drew ?_ | refine Ext.drewN ?_ _ | refine Ext.alloc ?_ _ | refine Ext.trans ?_ (by assumption)))))).mono ?_; rintro e w1 ⟨rfl, rfl⟩; rw [n4]) | (go_at_call 42; refine (bcompare_any _ _ _ _ _ _ x.fst x.lst _ (HX.out.ext (by with_reducible (repeat (first | exact Ext.rfl_ _ | assumption | refine Ext.drew ?_ | refine Ext.drewN ?_ _ | refine Ext.alloc ?_ _ | refine Ext.trans ?_ (by assumption))))) (HX2.out.ext (by with_reducible (repeat (first | exact Ext.rfl_ _ | assumption | refine Ext.drew ?_ | refine Ext.drewN ?_ _ | refine Ext.alloc ?_ _ | refine Ext.trans ?_ (by assumption)))))).mono ?_; rintro e w1 ⟨rfl, rfl⟩))
    go_ret
    exact ⟨ret_bool (by first | exact HR.out | (rw [← HR.out]; simp; omega)), (by with_reducible (repeat (first | exact Ext.rfl_ _ | assumption | refine Ext.drew ?_ | refine Ext.drewN ?_ _ | refine Ext.alloc ?_ _ | refine Ext.trans ?_ (by assumption))))⟩
  have z1 : x.lvl ≥ 0 := c1
  by_cases c2 : x.lvl < 4
  rotate_left
  · skip
    have HR : Hid (false = placeT x) := Lib.hid (HN.out (fun h => by exact c2 h.2.2.1))
    skip
    go_enter Tryz.func27, Tryz.ntmps27
    go_wp2_with (first | (go_at_call 22; refine (enumber_any _ _ _).mono ?_; rintro e w1 ⟨rfl, rfl⟩; first | rw [n0] | rw [n6]) | (go_at_call_of 51 (Value.slice A n c); refine (key_any _ _ _ x.fst _ (HX.out.ext (by with_reducible (repeat (first | exact Ext.rfl_ _ | assumption | refine Ext.drew ?_ | refine Ext.drewN ?_ _ | refine Ext.alloc ?_ _ | refine Ext.trans ?_ (by assumption)))))).mono ?_; rintro e w1 ⟨rfl, rfl⟩; rw [n3]) | (go_at_call_of 51 (Value.slice A' n' c'); refine (key_any _ _ _ x.lst _ (HX2.out.ext (by with_reducible (repeat (first | exact Ext.rfl_ _ | assumption | refine Ext.drew ?_ | refine Ext.drewN ?_ _ | refine Ext.alloc ?_ _ | refine Ext.trans ?_ (by assumption)))))).mono ?_; rintro e w1 ⟨rfl, rfl⟩; rw [n4]) | (go_at_call 42; refine (bcompare_any _ _ _ _ _ _ x.fst x.lst _ (HX.out.ext (by with_reducible (repeat (first | exact Ext.rfl_ _ | assumption | refine Ext.drew ?_ | refine Ext.drewN ?_ _ | refine Ext.alloc ?_ _ | refine Ext.trans ?_ (by assumption))))) (HX2.out.ext (by with_reducible (repeat (first | exact Ext.rfl_ _ | assumption | refine Ext.drew ?_ | refine Ext.drewN ?_ _ | refine Ext.alloc ?_ _ | refine Ext.trans ?_ (by assumption)))))).mono ?_; rintro e w1 ⟨rfl, rfl⟩))
    go_ret
    exact ⟨ret_bool (by first | exact HR.out | (rw [← HR.out]; simp; omega)), (by with_reducible (repeat (first | exact Ext.rfl_ _ | assumption | refine Ext.drew ?_ | refine Ext.drewN ?_ _ | refine Ext.alloc ?_ _ | refine Ext.trans ?_ (by assumption))))⟩
  skip
  by_cases c3 : keyT x.fst = true
  rotate_left
  · have n3 : keyT x.fst = false := by simpa using c3
    have HR : Hid (false = placeT x) := Lib.hid (HN.out (fun h => by exact c3 h.2.2.2.1))
    skip
    go_enter Tryz.func27, Tryz.ntmps27
    go_wp2_with (first | (go_at_call 22; refine (enumber_any _ _ _).mono ?_; rintro e w1 ⟨rfl, rfl⟩; first | rw [n0] | rw [n6]) | (go_at_call_of 51 (Value.slice A n c); refine (key_any _ _ _ x.fst _ (HX.out.ext (by with_reducible (repeat (first | exact Ext.rfl_ _ | assumption | refine Ext.drew ?_ | refine Ext.drewN ?_ _ | refine Ext.alloc ?_ _ | refine Ext.trans ?_ (by assumption)))))).mono ?_; rintro e w1 ⟨rfl, rfl⟩; rw [n3]) | (go_at_call_of 51 (Value.slice A' n' c'); refine (key_any _ _ _ x.lst _ (HX2.out.ext (by with_reducible (repeat (first | exact Ext.rfl_ _ | assumption | refine Ext.drew ?_ | refine Ext.drewN ?_ _ | refine Ext.alloc ?_ _ | refine Ext.trans ?_ (by assumption)))))).mono ?_; rintro e w1 ⟨rfl, rfl⟩; rw [n4]) | (go_at_call 42; refine (bcompare_any _ _ _ _ _ _ x.fst x.lst _ (HX.out.ext (by with_reducible (repeat (first | exact Ext.rfl_ _ | assumption | refine Ext.drew ?_ | refine Ext.drewN ?_ _ | refine Ext.alloc ?_ _ | refine Ext.trans ?_ (by assumption))))) (HX2.out.ext (by with_reducible (repeat (first | exact Ext.rfl_ _ | assumption | refine Ext.drew ?_ | refine Ext.drewN ?_ _ | refine Ext.alloc ?_ _ | refine Ext.trans ?_ (by assumption)))))).mono ?_; rintro e w1 ⟨rfl, rfl⟩))
    go_ret
    exact ⟨ret_bool (by first | exact HR.out | (rw [← HR.out]; simp; omega)), (by with_reducible (repeat (first | exact Ext.rfl_ _ | assumption | refine Ext.drew ?_ | refine Ext.drewN ?_ _ | refine Ext.alloc ?_ _ | refine Ext.trans ?_ (by assumption))))⟩
  have n3 := c3
  by_cases c4 : keyT x.lst = true
  rotate_left
  · have n4 : keyT x.lst = false := by simpa using c4
    have HR : Hid (false = placeT x) := Lib.hid (HN.out (fun h => by exact c4 h.2.2.2.2.1))
    skip
    go_enter Tryz.func27, Tryz.ntmps27
    go_wp2_with (first | (go_at_call 22; refine (enumber_any _ _ _).mono ?_; rintro e w1 ⟨rfl, rfl⟩; first | rw [n0] | rw [n6]) | (go_at_call_of 51 (Value.slice A n c); refine (key_any _ _ _ x.fst _ (HX.out.ext (by with_reducible (repeat (first | exact Ext.rfl_ _ | assumption | refine Ext.drew ?_ | refine Ext.drewN ?_ _ | refine Ext.alloc ?_ _ | refine Ext.trans ?_ (by assumption)))))).mono ?_; rintro e w1 ⟨rfl, rfl⟩; rw [n3]) | (go_at_call_of 51 (Value.slice A' n' c'); refine (key_any _ _ _ x.lst _ (HX2.out.ext (by with_reducible (repeat (first | exact Ext.rfl_ _ | assumption | refine Ext.drew ?_ | refine Ext.drewN ?_ _ | refine Ext.alloc ?_ _ | refine Ext.trans ?_ (by assumption)))))).mono ?_; rintro e w1 ⟨rfl, rfl⟩; rw [n4]) | (go_at_call 42; refine (bcompare_any _ _ _ _ _ _ x.fst x.lst _ (HX.out.ext (by with_reducible (repeat (first | exact Ext.rfl_ _ | assumption | refine Ext.drew ?_ | refine Ext.drewN ?_ _ | refine Ext.alloc ?_ _ | refine Ext.trans ?_ (by assumption))))) (HX2.out.ext (by with_reducible (repeat (first | exact Ext.rfl_ _ | assumption | refine Ext.drew ?_ | refine Ext.drewN ?_ _ | refine Ext.alloc ?_ _ | refine Ext.trans ?_ (by assumption)))))).mono ?_; rintro e w1 ⟨rfl, rfl⟩))
    go_ret
    exact ⟨ret_bool (by first | exact HR.out | (rw [← HR.out]; simp; omega)), (by with_reducible (repeat (first | exact Ext.rfl_ _ | assumption | refine Ext.drew ?_ | refine Ext.drewN ?_ _ | refine Ext.alloc ?_ _ | refine Ext.trans ?_ (by assumption))))⟩
  have n4 := c4
  by_cases c5 : cmpK x.fst x.lst ≤ 0
  rotate_left
  · skip
    have HR : Hid (false = placeT x) := Lib.hid (HN.out (fun h => by exact c5 h.2.2.2.2.2.1))
    skip
    go_enter Tryz.func27, Tryz.ntmps27
    go_wp2_with (first | (go_at_call 22; refine (enumber_any _ _ _).mono ?_; rintro e w1 ⟨rfl, rfl⟩; first | rw [n0] | rw [n6]) | (go_at_call_of 51 (Value.slice A n c); refine (key_any _ _ _ x.fst _ (HX.out.ext (by with_reducible (repeat (first | exact Ext.rfl_ _ | assumption | refine Ext.drew ?_ | refine Ext.drewN ?_ _ | refine Ext.alloc ?_ _ | refine Ext.trans ?_ (by assumption)))))).mono ?_; rintro e w1 ⟨rfl, rfl⟩; rw [n3]) | (go_at_call_of 51 (Value.slice A' n' c'); refine (key_any _ _ _ x.lst _ (HX2.out.ext (by with_reducible (repeat (first | exact Ext.rfl_ _ | assumption | refine Ext.drew ?_ | refine Ext.drewN ?_ _ | refine Ext.alloc ?_ _ | refine Ext.trans ?_ (by assumption)))))).mono ?_; rintro e w1 ⟨rfl, rfl⟩; rw [n4]) | (go_at_call 42; refine (bcompare_any _ _ _ _ _ _ x.fst x.lst _ (HX.out.ext (by with_reducible (repeat (first | exact Ext.rfl_ _ | assumption | refine Ext.drew ?_ | refine Ext.drewN ?_ _ | refine Ext.alloc ?_ _ | refine Ext.trans ?_ (by assumption))))) (HX2.out.ext (by with_reducible (repeat (first | exact Ext.rfl_ _ | assumption | refine Ext.drew ?_ | refine Ext.drewN ?_ _ | refine Ext.alloc ?_ _ | refine Ext.trans ?_ (by assumption)))))).mono ?_; rintro e w1 ⟨rfl, rfl⟩))
    go_ret
    exact ⟨ret_bool (by first | exact HR.out | (rw [← HR.out]; simp; omega)), (by with_reducible (repeat (first | exact Ext.rfl_ _ | assumption | refine Ext.drew ?_ | refine Ext.drewN ?_ _ | refine Ext.alloc ?_ _ | refine Ext.trans ?_ (by assumption))))⟩
  skip
  by_cases c6 : numT x.size 1 = true
  rotate_left
  · have n6 : numT x.size 1 = false := by simpa using c6
    have HR : Hid (false = placeT x) := Lib.hid (HN.out (fun h => by exact c6 h.2.2.2.2.2.2))
    skip
    go_enter Tryz.func27, Tryz.ntmps27
    go_wp2_with (first | (go_at_call 22; refine (enumber_any _ _ _).mono ?_; rintro e w1 ⟨rfl, rfl⟩; first | rw [n0] | rw [n6]) | (go_at_call_of 51 (Value.slice A n c); refine (key_any _ _ _ x.fst _ (HX.out.ext (by with_reducible (repeat (first | exact Ext.rfl_ _ | assumption | refine Ext.drew ?_ | refine Ext.drewN ?_ _ | refine Ext.alloc ?_ _ | refine Ext.trans ?_ (by assumption)))))).mono ?_; rintro e w1 ⟨rfl, rfl⟩; rw [n3]) | (go_at_call_of 51 (Value.slice A' n' c'); refine (key_any _ _ _ x.lst _ (HX2.out.ext (by with_reducible (repeat (first | exact Ext.rfl_ _ | assumption | refine Ext.drew ?_ | refine Ext.drewN ?_ _ | refine Ext.alloc ?_ _ | refine Ext.trans ?_ (by assumption)))))).mono ?_; rintro e w1 ⟨rfl, rfl⟩; rw [n4]) | (go_at_call 42; refine (bcompare_any _ _ _ _ _ _ x.fst x.lst _ (HX.out.ext (by with_reducible (repeat (first | exact Ext.rfl_ _ | assumption | refine Ext.drew ?_ | refine Ext.drewN ?_ _ | refine Ext.alloc ?_ _ | refine Ext.trans ?_ (by assumption))))) (HX2.out.ext (by with_reducible (repeat (first | exact Ext.rfl_ _ | assumption | refine Ext.drew ?_ | refine Ext.drewN ?_ _ | refine Ext.alloc ?_ _ | refine Ext.trans ?_ (by assumption)))))).mono ?_; rintro e w1 ⟨rfl, rfl⟩))
    go_ret
    exact ⟨ret_bool (by first | exact HR.out | (rw [← HR.out]; simp; omega)), (by with_reducible (repeat (first | exact Ext.rfl_ _ | assumption | refine Ext.drew ?_ | refine Ext.drewN ?_ _ | refine Ext.alloc ?_ _ | refine Ext.trans ?_ (by assumption))))⟩
  have n6 := c6
  have HR : Hid (true = placeT x) := Lib.hid (HY.out (by exact ⟨c0, c1, c2, c3, c4, c5, c6⟩))
  skip
  go_enter Tryz.func27, Tryz.ntmps27
  go_wp2_with (first | (go_at_call 22; refine (enumber_any _ _ _).mono ?_; rintro e w1 ⟨rfl, rfl⟩; first | rw [n0] | rw [n6]) | (go_at_call_of 51 (Value.slice A n c); refine (key_any _ _ _ x.fst _ (HX.out.ext (by with_reducible (repeat (first | exact Ext.rfl_ _ | assumption | refine Ext.drew ?_ | refine Ext.drewN ?_ _ | refine Ext.alloc ?_ _ | refine Ext.trans ?_ (by assumption)))))).mono ?_; rintro e w1 ⟨rfl, rfl⟩; rw [n3]) | (go_at_call_of 51 (Value.slice A' n' c'); refine (key_any _ _ _ x.lst _ (HX2.out.ext (by with_reducible (repeat (first | exact Ext.rfl_ _ | assumption | refine Ext.drew ?_ | refine Ext.drewN ?_ _ | refine Ext.alloc ?_ _ | refine Ext.trans ?_ (by assumption)))))).mono ?_; rintro e w1 ⟨rfl, rfl⟩; rw [n4]) | (go_at_call 42; refine (bcompare_any _ _ _ _ _ _ x.fst x.lst _ (HX.out.ext (by with_reducible (repeat (first | exact Ext.rfl_ _ | assumption | refine Ext.drew ?_ | refine Ext.drewN ?_ _ | refine Ext.alloc ?_ _ | refine Ext.trans ?_ (by assumption))))) (HX2.out.ext (by with_reducible (repeat (first | exact Ext.rfl_ _ | assumption | refine Ext.drew ?_ | refine Ext.drewN ?_ _ | refine Ext.alloc ?_ _ | refine Ext.trans ?_ (by assumption)))))).mono ?_; rintro e w1 ⟨rfl, rfl⟩))
  go_ret
  exact ⟨ret_bool (by first | exact HR.out | (rw [← HR.out]; simp; omega)), (by with_reducible (repeat (first | exact Ext.rfl_ _ | assumption | refine Ext.drew ?_ | refine Ext.drewN ?_ _ | refine Ext.alloc ?_ _ | refine Ext.trans ?_ (by assumption))))⟩

set_option maxRecDepth 100000 in
set_option maxHeartbeats 4000000 in
theorem rplace_any (v : Value) (x : Tab) (w : World) (hx : RdT w v x) :
    Calls Tryz.prog 15 #[v] w fun e w' => e = .returned (.bool (placeT x)) ∧ Ext w w' := by
  obtain ⟨A, n, c, A', n', c', rfl, hx1, hx2, _, hn, _, hn', _⟩ := hx
  have l1 := hx1.1
  have l2 := hx2.1
  have HB := Lib.hid (heap_alloc_new w (.cells #[.int .i64 x.num, .int .i64 x.lvl, .slice A n c, .slice A' n' c', .int .i64 x.size] 42))
  have HX := Lib.hid hx1
  have HX2 := Lib.hid hx2
  have HN : Hid (∀ (h : ¬ (numT x.num 1 = true ∧ 0 ≤ x.lvl ∧ x.lvl < 4 ∧ keyT x.fst = true ∧ keyT x.lst = true ∧ cmpK x.fst x.lst ≤ 0 ∧ numT x.size 1 = true)), false = placeT x) := Lib.hid (by
    intro h; unfold placeT; symm; simp only [Bool.and_eq_false_iff, decide_eq_false_iff_not]
    by_cases a1 : numT x.num 1 = true <;> by_cases a2 : (0 ≤ x.lvl ∧ x.lvl < 4) <;> by_cases a3 : keyT x.fst = true <;> by_cases a4 : keyT x.lst = true <;> by_cases a5 : cmpK x.fst x.lst ≤ 0 <;> by_cases a6 : numT x.size 1 = true <;> simp_all)
  have HY : Hid ((numT x.num 1 = true ∧ 0 ≤ x.lvl ∧ x.lvl < 4 ∧ keyT x.fst = true ∧ keyT x.lst = true ∧ cmpK x.fst x.lst ≤ 0 ∧ numT x.size 1 = true) → true = placeT x) := Lib.hid (by
    rintro ⟨a1, a2, a3, a4, a5, a6, a7⟩; unfold placeT; simp [a1, a2, a3, a4, a5, a6, a7])
  clear hx1 hx2
  by_cases c0 : 1 ≤ n
  rotate_left
  · have z0 : ¬ (n : Int) ≥ 1 := by omega
    have HR : Hid (false = placeT x) := Lib.hid (HN.out (fun h => by have q := h.2.2.2.1; unfold keyT at q; simp at q; omega))
    skip
    go_enter Tryz.func15, Tryz.ntmps15
    go_wp2_with (first | (go_at_call 44; refine (rless_any _ _ _ _ _ _ x.lst x.fst _ (HX2.out.ext (by with_reducible (repeat (first | exact Ext.rfl_ _ | assumption | refine Ext.drew ?_ | refine Ext.drewN ?_ _ | refine Ext.alloc ?_ _ | refine Ext.trans ?_ (by assumption))))) (HX.out.ext (by with_reducible (repeat (first | exact Ext.rfl_ _ | assumption | refine Ext.drew ?_ | refine Ext.drewN ?_ _ | refine Ext.alloc ?_ _ | refine Ext.trans ?_ (by assumption))))) hn' hn).mono ?_; rintro e w1 ⟨rfl, hw1⟩; rw [d8]; obtain ⟨p0, p1, p2, p3, p4, _⟩ := box5 HB.out (w' := w1) (by with_reducible (repeat (first | exact Ext.rfl_ _ | assumption | refine Ext.drew ?_ | refine Ext.drewN ?_ _ | refine Ext.alloc ?_ _ | refine Ext.trans ?_ (by assumption))))))
    go_ret
    exact ⟨ret_bool (by first | exact HR.out | (rw [← HR.out]; simp; omega)), (by with_reducible (repeat (first | exact Ext.rfl_ _ | assumption | refine Ext.drew ?_ | refine Ext.drewN ?_ _ | refine Ext.alloc ?_ _ | refine Ext.trans ?_ (by assumption))))⟩
  have z0 : (n : Int) ≥ 1 := by omega
  by_cases c1 : n ≤ 32
  rotate_left
  · have z1 : ¬ (n : Int) ≤ 32 := by omega
    have HR : Hid (false = placeT x) := Lib.hid (HN.out (fun h => by have q := h.2.2.2.1; unfold keyT at q; simp at q; omega))
    skip
    go_enter Tryz.func15, Tryz.ntmps15
    go_wp2_with (first | (go_at_call 44; refine (rless_any _ _ _ _ _ _ x.lst x.fst _ (HX2.out.ext (by with_reducible (repeat (first | exact Ext.rfl_ _ | assumption | refine Ext.drew ?_ | refine Ext.drewN ?_ _ | refine Ext.alloc ?_ _ | refine Ext.trans ?_ (by assumption))))) (HX.out.ext (by with_reducible (repeat (first | exact Ext.rfl_ _ | assumption | refine Ext.drew ?_ | refine Ext.drewN ?_ _ | refine Ext.alloc ?_ _ | refine Ext.trans ?_ (by assumption))))) hn' hn).mono ?_; rintro e w1 ⟨rfl, hw1⟩; rw [d8]; obtain ⟨p0, p1, p2, p3, p4, _⟩ := box5 HB.out (w' := w1) (by with_reducible (repeat (first | exact Ext.rfl_ _ | assumption | refine Ext.drew ?_ | refine Ext.drewN ?_ _ | refine Ext.alloc ?_ _ | refine Ext.trans ?_ (by assumption))))))
    go_ret
    exact ⟨ret_bool (by first | exact HR.out | (rw [← HR.out]; simp; omega)), (by with_reducible (repeat (first | exact Ext.rfl_ _ | assumption | refine Ext.drew ?_ | refine Ext.drewN ?_ _ | refine Ext.alloc ?_ _ | refine Ext.trans ?_ (by assumption))))⟩
  have z1 : (n : Int) ≤ 32 := by omega
  by_cases c2 : 1 ≤ n'
  rotate_left
  · have z2 : ¬ (n' : Int) ≥ 1 := by omega
    have HR : Hid (false = placeT x) := Lib.hid (HN.out (fun h => by have q := h.2.2.2.2.1; unfold keyT at q; simp at q; omega))
    skip
    go_enter Tryz.func15, Tryz.ntmps15
    go_wp2_with (first | (go_at_call 44; refine (rless_any _ _ _ _ _ _ x.lst x.fst _ (HX2.out.ext (by with_reducible (repeat (first | exact Ext.rfl_ _ | assumption | refine Ext.drew ?_ | refine Ext.drewN ?_ _ | refine Ext.alloc ?_ _ | refine Ext.trans ?_ (by assumption))))) (HX.out.ext (by with_reducible (repeat (first | exact Ext.rfl_ _ | assumption | refine Ext.drew ?_ | refine Ext.drewN ?_ _ | refine Ext.alloc ?_ _ | refine Ext.trans ?_ (by assumption))))) hn' hn).mono ?_; rintro e w1 ⟨rfl, hw1⟩; rw [d8]; obtain ⟨p0, p1, p2, p3, p4, _⟩ := box5 HB.out (w' := w1) (by with_reducible (repeat (first | exact Ext.rfl_ _ | assumption | refine Ext.drew ?_ | refine Ext.drewN ?_ _ | refine Ext.alloc ?_ _ | refine Ext.trans ?_ (by assumption))))))
    go_ret
    exact ⟨ret_bool (by first | exact HR.out | (rw [← HR.out]; simp; omega)), (by with_reducible (repeat (first | exact Ext.rfl_ _ | assumption | refine Ext.drew ?_ | refine Ext.drewN ?_ _ | refine Ext.alloc ?_ _ | refine Ext.trans ?_ (by assumption))))⟩
  have z2 : (n' : Int) ≥ 1 := by omega
  by_cases c3 : n' ≤ 32
  rotate_left
  · have z3 : ¬ (n' : Int) ≤ 32 := by omega
    have HR : Hid (false = placeT x) := Lib.hid (HN.out (fun h => by have q := h.2.2.2.2.1; unfold keyT at q; simp at q; omega))
    skip
    go_enter Tryz.func15, Tryz.ntmps15
    go_wp2_with (first | (go_at_call 44; refine (rless_any _ _ _ _ _ _ x.lst x.fst _ (HX2.out.ext (by with_reducible (repeat (first | exact Ext.rfl_ _ | assumption | refine Ext.drew ?_ | refine Ext.drewN ?_ _ | refine Ext.alloc ?_ _ | refine Ext.trans ?_ (by assumption))))) (HX.out.ext (by with_reducible (repeat (first | exact Ext.rfl_ _ | assumption | refine Ext.drew ?_ | refine Ext.drewN ?_ _ | refine Ext.alloc ?_ _ | refine Ext.trans ?_ (by assumption))))) hn' hn).mono ?_; rintro e w1 ⟨rfl, hw1⟩; rw [d8]; obtain ⟨p0, p1, p2, p3, p4, _⟩ := box5 HB.out (w' := w1) (by with_reducible (repeat (first | exact Ext.rfl_ _ | assumption | refine Ext.drew ?_ | refine Ext.drewN ?_ _ | refine Ext.alloc ?_ _ | refine Ext.trans ?_ (by assumption))))))
    go_ret
    exact ⟨ret_bool (by first | exact HR.out | (rw [← HR.out]; simp; omega)), (by with_reducible (repeat (first | exact Ext.rfl_ _ | assumption | refine Ext.drew ?_ | refine Ext.drewN ?_ _ | refine Ext.alloc ?_ _ | refine Ext.trans ?_ (by assumption))))⟩
  have z3 : (n' : Int) ≤ 32 := by omega
  by_cases c4 : x.num ≥ 1
  rotate_left
  · skip
    have HR : Hid (false = placeT x) := Lib.hid (HN.out (fun h => by have q := h.1; unfold numT at q; simp at q; omega))
    skip
    go_enter Tryz.func15, Tryz.ntmps15
    go_wp2_with (first | (go_at_call 44; refine (rless_any _ _ _ _ _ _ x.lst x.fst _ (HX2.out.ext (by with_reducible (repeat (first | exact Ext.rfl_ _ | assumption | refine Ext.drew ?_ | refine Ext.drewN ?_ _ | refine Ext.alloc ?_ _ | refine Ext.trans ?_ (by assumption))))) (HX.out.ext (by with_reducible (repeat (first | exact Ext.rfl_ _ | assumption | refine Ext.drew ?_ | refine Ext.drewN ?_ _ | refine Ext.alloc ?_ _ | refine Ext.trans ?_ (by assumption))))) hn' hn).mono ?_; rintro e w1 ⟨rfl, hw1⟩; rw [d8]; obtain ⟨p0, p1, p2, p3, p4, _⟩ := box5 HB.out (w' := w1) (by with_reducible (repeat (first | exact Ext.rfl_ _ | assumption | refine Ext.drew ?_ | refine Ext.drewN ?_ _ | refine Ext.alloc ?_ _ | refine Ext.trans ?_ (by assumption))))))
    go_ret
    exact ⟨ret_bool (by first | exact HR.out | (rw [← HR.out]; simp; omega)), (by with_reducible (repeat (first | exact Ext.rfl_ _ | assumption | refine Ext.drew ?_ | refine Ext.drewN ?_ _ | refine Ext.alloc ?_ _ | refine Ext.trans ?_ (by assumption))))⟩
  skip
  by_cases c5 : x.num ≤ 2147483647
  rotate_left
  · skip
    have HR : Hid (false = placeT x) := Lib.hid (HN.out (fun h => by have q := h.1; unfold numT at q; simp at q; omega))
    skip
    go_enter Tryz.func15, Tryz.ntmps15
    go_wp2_with (first | (go_at_call 44; refine (rless_any _ _ _ _ _ _ x.lst x.fst _ (HX2.out.ext (by with_reducible (repeat (first | exact Ext.rfl_ _ | assumption | refine Ext.drew ?_ | refine Ext.drewN ?_ _ | refine Ext.alloc ?_ _ | refine Ext.trans ?_ (by assumption))))) (HX.out.ext (by with_reducible (repeat (first | exact Ext.rfl_ _ | assumption | refine Ext.drew ?_ | refine Ext.drewN ?_ _ | refine Ext.alloc ?_ _ | refine Ext.trans ?_ (by assumption))))) hn' hn).mono ?_; rintro e w1 ⟨rfl, hw1⟩; rw [d8]; obtain ⟨p0, p1, p2, p3, p4, _⟩ := box5 HB.out (w' := w1) (by with_reducible (repeat (first | exact Ext.rfl_ _ | assumption | refine Ext.drew ?_ | refine Ext.drewN ?_ _ | refine Ext.alloc ?_ _ | refine Ext.trans ?_ (by assumption))))))
    go_ret
    exact ⟨ret_bool (by first | exact HR.out | (rw [← HR.out]; simp; omega)), (by with_reducible (repeat (first | exact Ext.rfl_ _ | assumption | refine Ext.drew ?_ | refine Ext.drewN ?_ _ | refine Ext.alloc ?_ _ | refine Ext.trans ?_ (by assumption))))⟩
  skip
  by_cases c6 : x.lvl ≥ 0
  rotate_left
  · skip
    have HR : Hid (false = placeT x) := Lib.hid (HN.out (fun h => by have q := h.2.1; omega))
    skip
    go_enter Tryz.func15, Tryz.ntmps15
    go_wp2_with (first | (go_at_call 44; refine (rless_any _ _ _ _ _ _ x.lst x.fst _ (HX2.out.ext (by with_reducible (repeat (first | exact Ext.rfl_ _ | assumption | refine Ext.drew ?_ | refine Ext.drewN ?_ _ | refine Ext.alloc ?_ _ | refine Ext.trans ?_ (by assumption))))) (HX.out.ext (by with_reducible (repeat (first | exact Ext.rfl_ _ | assumption | refine Ext.drew ?_ | refine Ext.drewN ?_ _ | refine Ext.alloc ?_ _ | refine Ext.trans ?_ (by assumption))))) hn' hn).mono ?_; rintro e w1 ⟨rfl, hw1⟩; rw [d8]; obtain ⟨p0, p1, p2, p3, p4, _⟩ := box5 HB.out (w' := w1) (by with_reducible (repeat (first | exact Ext.rfl_ _ | assumption | refine Ext.drew ?_ | refine Ext.drewN ?_ _ | refine Ext.alloc ?_ _ | refine Ext.trans ?_ (by assumption))))))
    go_ret
    exact ⟨ret_bool (by first | exact HR.out | (rw [← HR.out]; simp; omega)), (by with_reducible (repeat (first | exact Ext.rfl_ _ | assumption | refine Ext.drew ?_ | refine Ext.drewN ?_ _ | refine Ext.alloc ?_ _ | refine Ext.trans ?_ (by assumption))))⟩
  skip
  by_cases c7 : x.lvl < 4
  rotate_left
  · skip
    have HR : Hid (false = placeT x) := Lib.hid (HN.out (fun h => by have q := h.2.2.1; omega))
    skip
    go_enter Tryz.func15, Tryz.ntmps15
    go_wp2_with (first | (go_at_call 44; refine (rless_any _ _ _ _ _ _ x.lst x.fst _ (HX2.out.ext (by with_reducible (repeat (first | exact Ext.rfl_ _ | assumption | refine Ext.drew ?_ | refine Ext.drewN ?_ _ | refine Ext.alloc ?_ _ | refine Ext.trans ?_ (by assumption))))) (HX.out.ext (by with_reducible (repeat (first | exact Ext.rfl_ _ | assumption | refine Ext.drew ?_ | refine Ext.drewN ?_ _ | refine Ext.alloc ?_ _ | refine Ext.trans ?_ (by assumption))))) hn' hn).mono ?_; rintro e w1 ⟨rfl, hw1⟩; rw [d8]; obtain ⟨p0, p1, p2, p3, p4, _⟩ := box5 HB.out (w' := w1) (by with_reducible (repeat (first | exact Ext.rfl_ _ | assumption | refine Ext.drew ?_ | refine Ext.drewN ?_ _ | refine Ext.alloc ?_ _ | refine Ext.trans ?_ (by assumption))))))
    go_ret
    exact ⟨ret_bool (by first | exact HR.out | (rw [← HR.out]; simp; omega)), (by with_reducible (repeat (first | exact Ext.rfl_ _ | assumption | refine Ext.drew ?_ | refine Ext.drewN ?_ _ | refine Ext.alloc ?_ _ | refine Ext.trans ?_ (by assumption))))⟩
  skip
  by_cases c8 : ¬ cmpK x.lst x.fst < 0
  rotate_left
  · have c8x : cmpK x.lst x.fst < 0 := Decidable.byContradiction c8
    have d8 := decide_eq_true c8x
    have HR : Hid (false = placeT x) := Lib.hid (HN.out (fun h => by have q := h.2.2.2.2.2.1; have := cmpK_anti x.fst x.lst; omega))
    skip
    go_enter Tryz.func15, Tryz.ntmps15
    go_wp2_with (first | (go_at_call 44; refine (rless_any _ _ _ _ _ _ x.lst x.fst _ (HX2.out.ext (by with_reducible (repeat (first | exact Ext.rfl_ _ | assumption | refine Ext.drew ?_ | refine Ext.drewN ?_ _ | refine Ext.alloc ?_ _ | refine Ext.trans ?_ (by assumption))))) (HX.out.ext (by with_reducible (repeat (first | exact Ext.rfl_ _ | assumption | refine Ext.drew ?_ | refine Ext.drewN ?_ _ | refine Ext.alloc ?_ _ | refine Ext.trans ?_ (by assumption))))) hn' hn).mono ?_; rintro e w1 ⟨rfl, hw1⟩; rw [d8]; obtain ⟨p0, p1, p2, p3, p4, _⟩ := box5 HB.out (w' := w1) (by with_reducible (repeat (first | exact Ext.rfl_ _ | assumption | refine Ext.drew ?_ | refine Ext.drewN ?_ _ | refine Ext.alloc ?_ _ | refine Ext.trans ?_ (by assumption))))))
    go_ret
    exact ⟨ret_bool (by first | exact HR.out | (rw [← HR.out]; simp; omega)), (by with_reducible (repeat (first | exact Ext.rfl_ _ | assumption | refine Ext.drew ?_ | refine Ext.drewN ?_ _ | refine Ext.alloc ?_ _ | refine Ext.trans ?_ (by assumption))))⟩
  have d8 := decide_eq_false c8
  by_cases c9 : x.size ≥ 1
  rotate_left
  · skip
    have HR : Hid (false = placeT x) := Lib.hid (HN.out (fun h => by have q := h.2.2.2.2.2.2; unfold numT at q; simp at q; omega))
    skip
    go_enter Tryz.func15, Tryz.ntmps15
    go_wp2_with (first | (go_at_call 44; refine (rless_any _ _ _ _ _ _ x.lst x.fst _ (HX2.out.ext (by with_reducible (repeat (first | exact Ext.rfl_ _ | assumption | refine Ext.drew ?_ | refine Ext.drewN ?_ _ | refine Ext.alloc ?_ _ | refine Ext.trans ?_ (by assumption))))) (HX.out.ext (by with_reducible (repeat (first | exact Ext.rfl_ _ | assumption | refine Ext.drew ?_ | refine Ext.drewN ?_ _ | refine Ext.alloc ?_ _ | refine Ext.trans ?_ (by assumption))))) hn' hn).mono ?_; rintro e w1 ⟨rfl, hw1⟩; rw [d8]; obtain ⟨p0, p1, p2, p3, p4, _⟩ := box5 HB.out (w' := w1) (by with_reducible (repeat (first | exact Ext.rfl_ _ | assumption | refine Ext.drew ?_ | refine Ext.drewN ?_ _ | refine Ext.alloc ?_ _ | refine Ext.trans ?_ (by assumption))))))
    go_ret
    exact ⟨ret_bool (by first | exact HR.out | (rw [← HR.out]; simp; omega)), (by with_reducible (repeat (first | exact Ext.rfl_ _ | assumption | refine Ext.drew ?_ | refine Ext.drewN ?_ _ | refine Ext.alloc ?_ _ | refine Ext.trans ?_ (by assumption))))⟩
  skip
  by_cases c10 : x.size ≤ 2147483647
  rotate_left
  · skip
    have HR : Hid (false = placeT x) := Lib.hid (HN.out (fun h => by have q := h.2.2.2.2.2.2; unfold numT at q; simp at q; omega))
    skip
    go_enter Tryz.func15, Tryz.ntmps15
    go_wp2_with (first | (go_at_call 44; refine (rless_any _ _ _ _ _ _ x.lst x.fst _ (HX2.out.ext (by with_reducible (repeat (first | exact Ext.rfl_ _ | assumption | refine Ext.drew ?_ | refine Ext.drewN ?_ _ | refine Ext.alloc ?_ _ | refine Ext.trans ?_ (by assumption))))) (HX.out.ext (by with_reducible (repeat (first | exact Ext.rfl_ _ | assumption | refine Ext.drew ?_ | refine Ext.drewN ?_ _ | refine Ext.alloc ?_ _ | refine Ext.trans ?_ (by assumption))))) hn' hn).mono ?_; rintro e w1 ⟨rfl, hw1⟩; rw [d8]; obtain ⟨p0, p1, p2, p3, p4, _⟩ := box5 HB.out (w' := w1) (by with_reducible (repeat (first | exact Ext.rfl_ _ | assumption | refine Ext.drew ?_ | refine Ext.drewN ?_ _ | refine Ext.alloc ?_ _ | refine Ext.trans ?_ (by assumption))))))
    go_ret
    exact ⟨ret_bool (by first | exact HR.out | (rw [← HR.out]; simp; omega)), (by with_reducible (repeat (first | exact Ext.rfl_ _ | assumption | refine Ext.drew ?_ | refine Ext.drewN ?_ _ | refine Ext.alloc ?_ _ | refine Ext.trans ?_ (by assumption))))⟩
  skip
  have HR : Hid (true = placeT x) := Lib.hid (HY.out (by exact ⟨by unfold numT; simp; omega, by omega, by omega, by unfold keyT; simp; omega, by unfold keyT; simp; omega, by have := cmpK_anti x.fst x.lst; omega, by unfold numT; simp; omega⟩))
  skip
  go_enter Tryz.func15, Tryz.ntmps15
  go_wp2_with (first | (go_at_call 44; refine (rless_any _ _ _ _ _ _ x.lst x.fst _ (HX2.out.ext (by with_reducible (repeat (first | exact Ext.rfl_ _ | assumption | refine Ext.drew ?_ | refine Ext.drewN ?_ _ | refine Ext.alloc ?_ _ | refine Ext.trans ?_ (by assumption))))) (HX.out.ext (by with_reducible (repeat (first | exact Ext.rfl_ _ | assumption | refine Ext.drew ?_ | refine Ext.drewN ?_ _ | refine Ext.alloc ?_ _ | refine Ext.trans ?_ (by assumption))))) hn' hn).mono ?_; rintro e w1 ⟨rfl, hw1⟩; rw [d8]; obtain ⟨p0, p1, p2, p3, p4, _⟩ := box5 HB.out (w' := w1) (by with_reducible (repeat (first | exact Ext.rfl_ _ | assumption | refine Ext.drew ?_ | refine Ext.drewN ?_ _ | refine Ext.alloc ?_ _ | refine Ext.trans ?_ (by assumption))))))
  go_ret
  exact ⟨ret_bool (by first | exact HR.out | (rw [← HR.out]; simp; omega)), (by with_reducible (repeat (first | exact Ext.rfl_ _ | assumption | refine Ext.drew ?_ | refine Ext.drewN ?_ _ | refine Ext.alloc ?_ _ | refine Ext.trans ?_ (by assumption))))⟩

end Go.Proofs.YteooaplimiifiaaGreat
