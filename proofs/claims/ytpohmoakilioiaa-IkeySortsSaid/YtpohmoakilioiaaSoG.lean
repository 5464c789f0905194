/- Comparing entries, with the worlds that come of it: only new blocks and draws. Conditions: the entries read. -/
import Derived.Test.YtpohmoakilioiaaRefA
import Derived.Test.YtpohmoakilioiaaStS
namespace Go.Proofs.Ytpohmoakilioiaa
set_option linter.unusedSimpArgs false
set_option linter.unusedVariables false
set_option maxRecDepth 100000
open Go.RowKit Go.Sort

/-- w' is w with draws and new blocks. -/
def Gro (w w' : World) : Prop := ∃ q os, w' = grow (w.drewN q) os
theorem Gro.rfl_ (w : World) : Gro w w := ⟨0, #[], by rw [grow_empty]; rfl⟩
theorem Gro.alloc {a w : World} (h : Gro a w) (o : Obj) : Gro a (w.alloc o) := by
  obtain ⟨q, os, rfl⟩ := h
  exact ⟨q, os ++ #[o], by rw [alloc_eq_grow, grow_grow]⟩
theorem Gro.drew {a w : World} (h : Gro a w) : Gro a w.drew := by
  obtain ⟨q, os, rfl⟩ := h
  exact ⟨q + 1, os, rfl⟩
theorem Gro.drewN {a w : World} (h : Gro a w) (n : Nat) : Gro a (w.drewN n) := by
  obtain ⟨q, os, rfl⟩ := h
  exact ⟨q + n, os, by show grow ((a.drewN q).drewN n) os = _; congr 1; show ({ a with drawn := a.drawn + q + n } : World) = _; rw [Nat.add_assoc]; rfl⟩
theorem Gro.grow {a w : World} (h : Gro a w) (os : Array Obj) : Gro a (grow w os) := by
  obtain ⟨q, os', rfl⟩ := h
  exact ⟨q, os' ++ os, by rw [grow_grow]⟩
theorem Gro.trans {a b c : World} (h : Gro a b) (k : Gro b c) : Gro a c := by
  obtain ⟨q, os, rfl⟩ := k
  exact (h.drewN q).grow os
theorem Gro.ext {w w' : World} (h : Gro w w') : Ext w w' := by
  obtain ⟨q, os, rfl⟩ := h
  exact Ext.of ⟨rfl, rfl, rfl, by simp [Sort.grow], fun b hb => by simp only [Sort.grow]; rw [Array.getElem?_append_left (by exact hb)]; rfl⟩

set_option maxHeartbeats 400000 in
theorem compareG_any (u v : Value) (x y : Ent) (w : World) (hx : RdE w u x) (hy : RdE w v y) :
    Calls Try.prog 16 #[u, v] w fun e w' => e = .returned (.int .i64 (cmpE x y)) ∧ Gro w w' := by
  obtain ⟨A, n, c, A', n', c', rfl, hx1, _, _⟩ := hx
  obtain ⟨B, m, d, B', m', d', rfl, hy1, _, _⟩ := hy
  go_enter Try.func16, Try.ntmps16
  go_wp2
  go_region_held3 (fun w' => w'.cell? ⟨w.heap.size, 0, none⟩ = some (.slice A n c) ∧ w'.cell? ⟨w.heap.size + 1, 0, none⟩ = some (.slice B m d) ∧ w'.cell? ⟨w.heap.size + 1, 1, none⟩ = some (.int .i64 y.seq) ∧ w'.cell? ⟨w.heap.size, 1, none⟩ = some (.int .i64 x.seq) ∧ Rd w' A n x.key ∧ Rd w' B m y.key)
    (first | (go_keep; done) | (refine ⟨?_, ?_, ?_, ?_, ?_, ?_⟩ <;> (first | (go_keep; done) | exact hx1.ext (by with_reducible (repeat (first | exact Ext.rfl_ _ | assumption | refine Ext.drew ?_ | refine Ext.drewN ?_ _ | refine Ext.alloc ?_ _ | refine Ext.trans ?_ (by assumption)))) | exact hy1.ext (by with_reducible (repeat (first | exact Ext.rfl_ _ | assumption | refine Ext.drew ?_ | refine Ext.drewN ?_ _ | refine Ext.alloc ?_ _ | refine Ext.trans ?_ (by assumption)))))))
    (first | (go_at_call 28; refine (cmpKeys_any _ _ _ _ _ _ x.key y.key _ ?_ ?_).mono ?_; (simp [*]); (simp [*]); rintro e w' ⟨rfl, rfl⟩)
           | (go_at_call 48; refine (cmpInt_any _ _ _).mono ?_; rintro e w' ⟨rfl, rfl⟩)
           | (go_at_call 47; refine (cmpOr_any _ (cmpK x.key y.key) (cmpI y.seq x.seq) _ ?_ ?_).mono ?_; (go_simp); (go_simp); rintro e w' ⟨rfl, rfl⟩))
  go_wp2
  go_ret
  exact ⟨rfl, (by with_reducible (repeat (first | exact Gro.rfl_ _ | assumption | refine Gro.drew ?_ | refine Gro.drewN ?_ _ | refine Gro.alloc ?_ _ | refine Gro.trans ?_ (by assumption))))⟩

set_option maxRecDepth 100000 in
set_option maxHeartbeats 2000000 in
theorem rcmpKeysG_any (A B : Option Addr) (n c m d : Nat) (x y : Bs) (w : World) (hx : Rd w A n x) (hy : Rd w B m y) (hn : n ≤ B47) (hm : m ≤ B47) :
    Calls Try.prog 29 #[.slice A n c, .slice B m d] w fun e w' => e = .returned (.int .i64 (cmpK x y)) ∧ Gro w w' := by
  have HX := Lib.hid hx
  have HY := Lib.hid hy
  have e1 := Lib.hid hx.1
  have e2 := Lib.hid hy.1
  unfold B47 at hn hm
  clear hx hy
  go_enter Try.func29, Try.ntmps29
  go_wp2
  go_loopw [5] (fun i wr => ∃ k : Nat, k ≤ n ∧ k ≤ m ∧ i = .int .i64 k ∧ Hid (x.take k = y.take k) ∧ Gro w wr) (fun i _ => n - (intOf i).toNat)
  case atStart => exact ⟨0, Nat.zero_le _, Nat.zero_le _, rfl, Lib.hid rfl, Gro.rfl_ _⟩
  case round =>
    obtain ⟨k, hk1, hk2, rfl, HT, hE⟩ := hrel
    by_cases c1 : (k : Int) < (n : Int)
    · by_cases c2 : (k : Int) < (m : Int)
      · obtain ⟨b, o, rfl, hc⟩ := HX.out.at_ (by omega)
        obtain ⟨b', o', rfl, hc'⟩ := HY.out.at_ (by omega)
        have g1 := hE.ext.keeps _ _ _ (hc k (by rw [e1.out]; omega))
        have g2 := hE.ext.keeps _ _ _ (hc' k (by rw [e2.out]; omega))
        clear hc hc'
        obtain ⟨p, hp⟩ : ∃ p, p = x[k]'(by rw [e1.out]; omega) := ⟨_, rfl⟩
        obtain ⟨q, hq⟩ : ∃ q, q = y[k]'(by rw [e2.out]; omega) := ⟨_, rfl⟩
        rw [← hp] at g1
        rw [← hq] at g2
        have HP := Lib.hid hp
        have HQ := Lib.hid hq
        clear hp hq
        have hdx : x.drop k = p :: x.drop (k + 1) := by rw [HP.out]; exact List.drop_eq_getElem_cons (by rw [e1.out]; omega)
        have hdy : y.drop k = q :: y.drop (k + 1) := by rw [HQ.out]; exact List.drop_eq_getElem_cons (by rw [e2.out]; omega)
        have hcm : cmpK x y = if p < q then -1 else if q < p then 1 else cmpK (x.drop (k + 1)) (y.drop (k + 1)) := by
          rw [cmpK_take k (by rw [e1.out]; omega) (by rw [e2.out]; omega) HT.out, hdx, hdy, cmpK_cons]
        have HC := Lib.hid hcm
        clear hcm hdx hdy
        by_cases b1 : (p.toNat : Int) < (q.toNat : Int)
        · have hr : (-1 : Int) = cmpK x y := by rw [HC.out, if_pos (UInt8.lt_iff_toNat_lt.2 (by omega))]
          have HR := Lib.hid hr
          clear hr
          go_wp2
          go_quiet (fail)
          go_wp2
          go_ret
          exact ⟨ret_int HR.out, (by with_reducible (repeat (first | exact Gro.rfl_ _ | assumption | refine Gro.drew ?_ | refine Gro.drewN ?_ _ | refine Gro.alloc ?_ _ | refine Gro.trans ?_ (by assumption))))⟩
        · have b1' : decide ((p.toNat : Int) < (q.toNat : Int)) = false := decide_eq_false b1
          by_cases b2 : (q.toNat : Int) < (p.toNat : Int)
          · have hr : (1 : Int) = cmpK x y := by rw [HC.out, if_neg (fun h => b1 (by have := UInt8.lt_iff_toNat_lt.1 h; omega)), if_pos (UInt8.lt_iff_toNat_lt.2 (by omega))]
            have HR := Lib.hid hr
            clear hr
            go_wp2
            go_quiet (fail)
            go_wp2
            go_quiet (fail)
            go_wp2
            go_ret
            exact ⟨ret_int HR.out, (by with_reducible (repeat (first | exact Gro.rfl_ _ | assumption | refine Gro.drew ?_ | refine Gro.drewN ?_ _ | refine Gro.alloc ?_ _ | refine Gro.trans ?_ (by assumption))))⟩
          · have b2' : decide ((q.toNat : Int) < (p.toNat : Int)) = false := decide_eq_false b2
            have hpq : p = q := UInt8.toNat_inj.1 (by omega)
            have ht : x.take (k + 1) = y.take (k + 1) := by
              rw [List.take_succ_eq_append_getElem (by rw [e1.out]; omega), List.take_succ_eq_append_getElem (by rw [e2.out]; omega), HT.out, ← HP.out, ← HQ.out, hpq]
            have HT2 := Lib.hid ht
            clear ht hpq
            go_wp2
            go_quiet (fail)
            go_wp2
            go_quiet (fail)
            go_wp2
            go_roundw
            case rel => exact ⟨k + 1, by omega, by omega, by simp, HT2, (by with_reducible (repeat (first | exact Gro.rfl_ _ | assumption | refine Gro.drew ?_ | refine Gro.drewN ?_ _ | refine Gro.alloc ?_ _ | refine Gro.trans ?_ (by assumption))))⟩
            case measure => simp [intOf]; omega
      · have hr : cmpK x y = cmpK (x.drop k) (y.drop k) := cmpK_take k (by rw [e1.out]; omega) (by rw [e2.out]; omega) HT.out
        obtain rfl : k = m := by omega
        have hy0 : y.drop k = [] := by rw [← e2.out]; simp
        have hxn : x.drop k ≠ [] := by simp [e1.out]; omega
        have h1 : (1 : Int) = cmpK x y := by
          rw [hr, hy0]
          cases hxx : x.drop k with
          | nil => exact absurd hxx hxn
          | cons a t => rfl
        have HR := Lib.hid h1
        clear hr hy0 hxn h1
        have c3 : (k : Int) < (n : Int) := c1
        have c4 : ¬ (n : Int) < (k : Int) := by omega
        go_wp2
        go_ret
        exact ⟨ret_int HR.out, (by with_reducible (repeat (first | exact Gro.rfl_ _ | assumption | refine Gro.drew ?_ | refine Gro.drewN ?_ _ | refine Gro.alloc ?_ _ | refine Gro.trans ?_ (by assumption))))⟩
    · obtain rfl : k = n := by omega
      have hr : cmpK x y = cmpK (x.drop k) (y.drop k) := cmpK_take k (by rw [e1.out]; omega) (by rw [e2.out]; omega) HT.out
      have hx0 : x.drop k = [] := by rw [← e1.out]; simp
      by_cases c2 : (k : Int) < (m : Int)
      · have hyn : y.drop k ≠ [] := by simp [e2.out]; omega
        have h1 : (-1 : Int) = cmpK x y := by
          rw [hr, hx0, cmpK_nil, if_neg hyn]
        have HR := Lib.hid h1
        clear hr hx0 hyn h1
        go_wp2
        go_ret
        exact ⟨ret_int HR.out, (by with_reducible (repeat (first | exact Gro.rfl_ _ | assumption | refine Gro.drew ?_ | refine Gro.drewN ?_ _ | refine Gro.alloc ?_ _ | refine Gro.trans ?_ (by assumption))))⟩
      · obtain rfl : k = m := by omega
        have hy0 : y.drop k = [] := by rw [← e2.out]; simp
        have h1 : (0 : Int) = cmpK x y := by
          rw [hr, hx0, hy0]; rfl
        have HR := Lib.hid h1
        clear hr hx0 hy0 h1
        go_wp2
        go_ret
        exact ⟨ret_int HR.out, (by with_reducible (repeat (first | exact Gro.rfl_ _ | assumption | refine Gro.drew ?_ | refine Gro.drewN ?_ _ | refine Gro.alloc ?_ _ | refine Gro.trans ?_ (by assumption))))⟩

set_option maxRecDepth 100000 in
set_option maxHeartbeats 1000000 in
theorem rcompareG_any (u v : Value) (x y : Ent) (w : World) (hx : RdE w u x) (hy : RdE w v y) :
    Calls Try.prog 27 #[u, v] w fun e w' => e = .returned (.int .i64 (cmpE x y)) ∧ Gro w w' := by
  obtain ⟨A, n, c, A', n', c', rfl, hx1, _, _, hn, _⟩ := hx
  obtain ⟨B, m, d, B', m', d', rfl, hy1, _, _, hm, _⟩ := hy
  have b1 := blk1 w (.cells #[.slice A n c, .int .i64 x.seq, .int .i64 x.kind, .slice A' n' c'] 25)
  have b2 := blk1 (w.alloc (.cells #[.slice A n c, .int .i64 x.seq, .int .i64 x.kind, .slice A' n' c'] 25)) (.cells #[.slice B m d, .int .i64 y.seq, .int .i64 y.kind, .slice B' m' d'] 25)
  rw [World.size_alloc] at b2
  have B1 := Lib.hid b1
  have B2 := Lib.hid b2
  clear b1 b2
  go_enter Try.func27, Try.ntmps27
  go_wp2_with fail
  refine (rcmpKeysG_any A B n c m d x.key y.key _ (hx1.ext (by with_reducible (repeat (first | exact Ext.rfl_ _ | assumption | refine Ext.drew ?_ | refine Ext.drewN ?_ _ | refine Ext.alloc ?_ _ | refine Ext.trans ?_ (by assumption))))) (hy1.ext (by with_reducible (repeat (first | exact Ext.rfl_ _ | assumption | refine Ext.drew ?_ | refine Ext.drewN ?_ _ | refine Ext.alloc ?_ _ | refine Ext.trans ?_ (by assumption))))) hn hm).mono ?_
  rintro e w1 ⟨rfl, hg1⟩
  have hw1 := hg1.ext
  obtain ⟨q0, q1, q2, q3, _, _, _, _⟩ := box4 B1.out (w' := w1) (by with_reducible (repeat (first | exact Ext.rfl_ _ | assumption | refine Ext.drew ?_ | refine Ext.drewN ?_ _ | refine Ext.alloc ?_ _ | refine Ext.trans ?_ (by assumption))))
  obtain ⟨r0, r1, r2, r3, _, _, _, _⟩ := box4 B2.out (w' := w1) (by with_reducible (repeat (first | exact Ext.rfl_ _ | assumption | refine Ext.drew ?_ | refine Ext.drewN ?_ _ | refine Ext.alloc ?_ _ | refine Ext.trans ?_ (by assumption))))
  by_cases h0 : cmpK x.key y.key = 0
  · by_cases h1 : y.seq < x.seq
    · have hr : (-1 : Int) = cmpE x y := by unfold cmpE orI; rw [if_pos h0]; simp [cmpI, h1]
      have HR := Lib.hid hr
      rw [h0]
      clear hr h0
      go_wp2
      go_ret
      exact ⟨ret_int HR.out, (by with_reducible (repeat (first | exact Gro.rfl_ _ | assumption | refine Gro.drew ?_ | refine Gro.drewN ?_ _ | refine Gro.alloc ?_ _ | refine Gro.trans ?_ (by assumption))))⟩
    · by_cases h2 : x.seq < y.seq
      · have hr : (1 : Int) = cmpE x y := by unfold cmpE orI; rw [if_pos h0]; simp [cmpI, h1, h2]
        have HR := Lib.hid hr
        rw [h0]
        clear hr h0
        go_wp2
        go_ret
        exact ⟨ret_int HR.out, (by with_reducible (repeat (first | exact Gro.rfl_ _ | assumption | refine Gro.drew ?_ | refine Gro.drewN ?_ _ | refine Gro.alloc ?_ _ | refine Gro.trans ?_ (by assumption))))⟩
      · have hr : (0 : Int) = cmpE x y := by unfold cmpE orI; rw [if_pos h0]; simp [cmpI, h1, h2]
        have HR := Lib.hid hr
        rw [h0]
        clear hr h0
        go_wp2
        go_ret
        exact ⟨ret_int HR.out, (by with_reducible (repeat (first | exact Gro.rfl_ _ | assumption | refine Gro.drew ?_ | refine Gro.drewN ?_ _ | refine Gro.alloc ?_ _ | refine Gro.trans ?_ (by assumption))))⟩
  · have hr : cmpK x.key y.key = cmpE x y := by unfold cmpE orI; rw [if_neg h0]
    have HR := Lib.hid hr
    have h0' : (cmpK x.key y.key != 0) = true := by simpa using h0
    clear hr h0
    go_wp2
    go_ret
    exact ⟨ret_int HR.out, (by with_reducible (repeat (first | exact Gro.rfl_ _ | assumption | refine Gro.drew ?_ | refine Gro.drewN ?_ _ | refine Gro.alloc ?_ _ | refine Gro.trans ?_ (by assumption))))⟩

end Go.Proofs.Ytpohmoakilioiaa
