/- The reference's May, and that it answers as edit.May. Conditions: the version reads. -/
import Derived.Test.YteooaplimiifiaaGreatEdMay
namespace Go.Proofs.YteooaplimiifiaaGreat
set_option linter.unusedSimpArgs false
set_option linter.unusedVariables false
set_option maxRecDepth 100000
open Go.RowKit

def pairR (u t : Tab) : Prop := u.num ≠ t.num ∧ ordT u t < 0 ∧ ¬ (u.lvl = t.lvl ∧ t.lvl > 0 ∧ apartT u t = false)
def rgoodT (x : Ver) (k : Nat) : Prop := ∀ i t, i < k → x.ts[i]? = some t → okT x t ∧ ∀ j u, j < i → x.ts[j]? = some u → pairR u t

/-! ### the order is one of a whole -/
theorem cmpK_ltT {x y z : Bs} (h : cmpK x y < 0) (k : cmpK y z < 0) : cmpK x z < 0 := by
  induction x generalizing y z with
  | nil =>
    cases z with
    | nil => cases y <;> simp [Lib.compareBytes] at h k
    | cons c z => simp [Lib.compareBytes]
  | cons a x ih =>
    cases y with
    | nil => simp [Lib.compareBytes] at h
    | cons b y =>
      cases z with
      | nil => simp [Lib.compareBytes] at k
      | cons c z =>
        rw [cmpK_cons] at h k ⊢
        have e1 : a < b ↔ a.toNat < b.toNat := UInt8.lt_iff_toNat_lt
        have e2 : b < a ↔ b.toNat < a.toNat := UInt8.lt_iff_toNat_lt
        have e3 : b < c ↔ b.toNat < c.toNat := UInt8.lt_iff_toNat_lt
        have e4 : c < b ↔ c.toNat < b.toNat := UInt8.lt_iff_toNat_lt
        have e5 : a < c ↔ a.toNat < c.toNat := UInt8.lt_iff_toNat_lt
        have e6 : c < a ↔ c.toNat < a.toNat := UInt8.lt_iff_toNat_lt
        simp only [e1, e2] at h
        simp only [e3, e4] at k
        simp only [e5, e6]
        split at h
        · split at k
          · rw [if_pos (by omega)]; decide
          · split at k
            · cases k
            · rw [if_pos (by omega)]; decide
        · split at h
          · cases h
          · split at k
            · rw [if_pos (by omega)]; decide
            · split at k
              · cases k
              · rw [if_neg (by omega), if_neg (by omega)]; exact ih h k
theorem cmpK_refl (x : Bs) : cmpK x x = 0 := by have := cmpK_anti x x; omega
theorem cmpK_eq {x y : Bs} (h : cmpK x y = 0) : x = y := by
  induction x generalizing y with
  | nil => cases y with
    | nil => rfl
    | cons b y => simp [Lib.compareBytes] at h
  | cons a x ih =>
    cases y with
    | nil => simp [Lib.compareBytes] at h
    | cons b y =>
      rw [cmpK_cons] at h
      split at h
      · cases h
      · split at h
        · cases h
        · rename_i h1 h2
          have e1 : a < b ↔ a.toNat < b.toNat := UInt8.lt_iff_toNat_lt
          have e2 : b < a ↔ b.toNat < a.toNat := UInt8.lt_iff_toNat_lt
          simp only [e1] at h1
          simp only [e2] at h2
          have : a = b := UInt8.toNat_inj.1 (by omega)
          rw [this, ih h]
theorem cmpK_lt_le {x y z : Bs} (h : cmpK x y < 0) (k : cmpK y z ≤ 0) : cmpK x z < 0 := by
  by_cases e : cmpK y z = 0
  · rw [← cmpK_eq e]; exact h
  · exact cmpK_ltT h (by omega)
theorem cmpK_le_lt {x y z : Bs} (h : cmpK x y ≤ 0) (k : cmpK y z < 0) : cmpK x z < 0 := by
  by_cases e : cmpK x y = 0
  · rw [cmpK_eq e]; exact k
  · exact cmpK_ltT (by omega) k
theorem ordT_lvl {a b : Tab} (h : ordT a b < 0) : a.lvl ≤ b.lvl := by
  unfold ordT at h
  split at h
  · have := (cmpI_lt _ _).1 h; omega
  · rename_i e; simp at e; omega
theorem ordT_trans {a b c : Tab} (h : ordT a b < 0) (k : ordT b c < 0) : ordT a c < 0 := by
  have l1 := ordT_lvl h
  have l2 := ordT_lvl k
  by_cases e1 : a.lvl = b.lvl
  · by_cases e2 : b.lvl = c.lvl
    · unfold ordT at h k ⊢
      rw [if_neg (by simp [e1])] at h
      rw [if_neg (by simp [e2])] at k
      rw [if_neg (by simp [e1, e2])]
      by_cases e0 : a.lvl = 0
      · rw [if_pos e0] at h
        rw [if_pos (by omega)] at k
        rw [if_pos e0, cmpI_lt]
        rw [cmpI_lt] at h k
        omega
      · rw [if_neg e0] at h
        rw [if_neg (by omega)] at k
        rw [if_neg e0]
        exact cmpK_ltT h k
    · unfold ordT
      rw [if_pos (by omega), cmpI_lt]
      omega
  · unfold ordT
    rw [if_pos (by omega), cmpI_lt]
    omega

theorem placeT_le {t : Tab} (h : placeT t = true) : cmpK t.fst t.lst ≤ 0 := by unfold placeT at h; simp at h; exact h.1.2
/-- What the chain of steps says of any two. -/
theorem chain_pairs {x : Ver} {k : Nat} (h : goodT x k) : ∀ i j t u, i < k → j < i → x.ts[i]? = some t → x.ts[j]? = some u → ordT u t < 0 ∧ (u.lvl = t.lvl → t.lvl > 0 → cmpK u.lst t.fst < 0) := by
  intro i
  induction i with
  | zero => intro j t u _ hj; omega
  | succ i ih =>
    intro j t u hi hj ht hu
    have hil : i < x.ts.length := by have := (List.getElem?_eq_some_iff.1 ht).1; omega
    obtain ⟨q, hq⟩ : ∃ q, x.ts[i]? = some q := ⟨_, List.getElem?_eq_getElem hil⟩
    have st := (h (i + 1) t hi ht).2.2 i q rfl hq
    by_cases e : j = i
    · subst e
      rw [hu] at hq
      cases hq
      exact ⟨st.1, fun e1 e2 => by
        by_cases e3 : cmpK u.lst t.fst < 0
        · exact e3
        · exact absurd ⟨e1, e2, by omega⟩ st.2⟩
    · obtain ⟨r1, r2⟩ := ih j q u (by omega) (by omega) hq hu
      refine ⟨ordT_trans r1 st.1, fun e1 e2 => ?_⟩
      have l1 := ordT_lvl r1
      have l2 := ordT_lvl st.1
      have s1 := r2 (by omega) (by omega)
      have s2 := placeT_le ((h i q (by omega) hq).1.1)
      have s3 : cmpK q.lst t.fst < 0 := by
        by_cases e3 : cmpK q.lst t.fst < 0
        · exact e3
        · exact absurd ⟨by omega, e2, by omega⟩ st.2
      exact cmpK_ltT s1 (cmpK_le_lt s2 s3)
theorem good_of {x : Ver} {k : Nat} (h : goodT x k) : rgoodT x k := by
  intro i t hi ht
  obtain ⟨h1, h2, h3⟩ := h i t hi ht
  refine ⟨h1, fun j u hj hu => ⟨h2 j u hj hu, (chain_pairs h i j t u hi hj ht hu).1, fun ⟨e1, e2, e3⟩ => ?_⟩⟩
  have := (chain_pairs h i j t u hi hj ht hu).2 e1 e2
  unfold apartT at e3
  exact absurd (.inl this) (of_decide_eq_false e3)
theorem of_good {x : Ver} {k : Nat} (h : rgoodT x k) (hk : k ≤ x.ts.length) : goodT x k := by
  intro i t hi ht
  obtain ⟨h1, h2⟩ := h i t hi ht
  refine ⟨h1, fun j u hj hu => (h2 j u hj hu).1, fun j q e hq => ?_⟩
  obtain ⟨p1, p2, p3⟩ := h2 j q (by omega) hq
  refine ⟨p2, fun ⟨e1, e2, e3⟩ => p3 ⟨e1, e2, ?_⟩⟩
  unfold apartT
  refine decide_eq_false ?_
  rintro (h | h)
  · omega
  · -- t.lst < q.fst ≤ .. while q.fst < t.fst ≤ t.lst
    have s1 := placeT_le h1.1
    have s2 : cmpK q.fst t.fst < 0 := by
      have := p2
      unfold ordT at this
      rw [if_neg (by simp [e1]), if_neg (by omega)] at this
      exact this
    have s3 := cmpK_ltT h s2
    have := cmpK_anti t.lst t.fst
    omega
theorem may_same (x : Ver) : MayT x ↔ headT x ∧ rgoodT x x.ts.length :=
  ⟨fun h => ⟨h.1, good_of h.2⟩, fun h => ⟨h.1, of_good h.2 (Nat.le_refl _)⟩⟩
theorem rgood_zero (x : Ver) : rgoodT x 0 := fun i t h => absurd h (by omega)
theorem rgood_succ {x : Ver} {k : Nat} {t : Tab} (h : rgoodT x k) (ht : x.ts[k]? = some t) (h1 : okT x t) (h2 : ∀ j u, j < k → x.ts[j]? = some u → pairR u t) : rgoodT x (k + 1) := by
  intro i u hi hu
  by_cases e : i = k
  · subst e
    rw [ht] at hu
    cases hu
    exact ⟨h1, h2⟩
  · exact h i u (by omega) hu
theorem rmay_bad {x : Ver} {k : Nat} {t : Tab} (ht : x.ts[k]? = some t) (h : ¬ (okT x t ∧ ∀ j u, j < k → x.ts[j]? = some u → pairR u t)) : false = mayT x := mayT_no (fun hm => h (by
  obtain ⟨_, hg⟩ := (may_same x).1 hm
  exact hg k t (List.getElem?_eq_some_iff.1 ht).1 ht))

set_option maxRecDepth 100000 in
set_option maxHeartbeats 8000000 in
theorem rmay_any (v : Value) (x : Ver) (w : World) (hv : RdV w v x) :
    Calls Tryz.prog 6 #[v] w fun e w' => e = .returned (.bool (mayT x)) ∧ Ext w w' := by
  obtain ⟨A, n, c, rfl, hl, hnc⟩ := hv
  obtain rfl : x.ts.length = n := hl.1
  have hsz := hl.2.1
  unfold B47 at hsz
  have HL := Lib.hid hl
  have HB := Lib.hid (heap_alloc_new w (.cells #[.int .i64 x.next, .int .i64 x.log, .int .i64 x.index, .int .i64 x.seq, .slice A x.ts.length c] 24))
  have HSZ := Lib.hid hsz
  have HHD : Hid (headT x ↔ ¬ x.next < 1 ∧ ¬ x.next > 2147483647 ∧ ¬ x.log < 0 ∧ ¬ x.log ≥ x.next ∧ ¬ x.index < 0 ∧ ¬ x.index > 2147483647 ∧ ¬ x.seq < 0 ∧ ¬ x.seq > 2147483647) := Lib.hid (by
    unfold headT numT
    simp only [decide_eq_true_eq]
    omega)
  clear hl hsz
  by_cases a0 : x.next < 1
  · have HR : Hid (false = mayT x) := Lib.hid (mayT_no fun h => absurd (HHD.out.1 h.1) (by omega))
    go_enter Tryz.func6, Tryz.ntmps6
    go_wp2
    go_ret
    exact ⟨ret_bool HR.out, (by with_reducible (repeat (first | exact Ext.rfl_ _ | assumption | refine Ext.drew ?_ | refine Ext.drewN ?_ _ | refine Ext.alloc ?_ _ | refine Ext.trans ?_ (by assumption))))⟩
  by_cases a1 : x.next > 2147483647
  · have HR : Hid (false = mayT x) := Lib.hid (mayT_no fun h => absurd (HHD.out.1 h.1) (by omega))
    go_enter Tryz.func6, Tryz.ntmps6
    go_wp2
    go_ret
    exact ⟨ret_bool HR.out, (by with_reducible (repeat (first | exact Ext.rfl_ _ | assumption | refine Ext.drew ?_ | refine Ext.drewN ?_ _ | refine Ext.alloc ?_ _ | refine Ext.trans ?_ (by assumption))))⟩
  by_cases a2 : x.log < 0
  · have HR : Hid (false = mayT x) := Lib.hid (mayT_no fun h => absurd (HHD.out.1 h.1) (by omega))
    go_enter Tryz.func6, Tryz.ntmps6
    go_wp2
    go_ret
    exact ⟨ret_bool HR.out, (by with_reducible (repeat (first | exact Ext.rfl_ _ | assumption | refine Ext.drew ?_ | refine Ext.drewN ?_ _ | refine Ext.alloc ?_ _ | refine Ext.trans ?_ (by assumption))))⟩
  by_cases a3 : x.log ≥ x.next
  · have HR : Hid (false = mayT x) := Lib.hid (mayT_no fun h => absurd (HHD.out.1 h.1) (by omega))
    go_enter Tryz.func6, Tryz.ntmps6
    go_wp2
    go_ret
    exact ⟨ret_bool HR.out, (by with_reducible (repeat (first | exact Ext.rfl_ _ | assumption | refine Ext.drew ?_ | refine Ext.drewN ?_ _ | refine Ext.alloc ?_ _ | refine Ext.trans ?_ (by assumption))))⟩
  by_cases a4 : x.index < 0
  · have HR : Hid (false = mayT x) := Lib.hid (mayT_no fun h => absurd (HHD.out.1 h.1) (by omega))
    go_enter Tryz.func6, Tryz.ntmps6
    go_wp2
    go_ret
    exact ⟨ret_bool HR.out, (by with_reducible (repeat (first | exact Ext.rfl_ _ | assumption | refine Ext.drew ?_ | refine Ext.drewN ?_ _ | refine Ext.alloc ?_ _ | refine Ext.trans ?_ (by assumption))))⟩
  by_cases a5 : x.index > 2147483647
  · have HR : Hid (false = mayT x) := Lib.hid (mayT_no fun h => absurd (HHD.out.1 h.1) (by omega))
    go_enter Tryz.func6, Tryz.ntmps6
    go_wp2
    go_ret
    exact ⟨ret_bool HR.out, (by with_reducible (repeat (first | exact Ext.rfl_ _ | assumption | refine Ext.drew ?_ | refine Ext.drewN ?_ _ | refine Ext.alloc ?_ _ | refine Ext.trans ?_ (by assumption))))⟩
  by_cases a6 : x.seq < 0
  · have HR : Hid (false = mayT x) := Lib.hid (mayT_no fun h => absurd (HHD.out.1 h.1) (by omega))
    go_enter Tryz.func6, Tryz.ntmps6
    go_wp2
    go_ret
    exact ⟨ret_bool HR.out, (by with_reducible (repeat (first | exact Ext.rfl_ _ | assumption | refine Ext.drew ?_ | refine Ext.drewN ?_ _ | refine Ext.alloc ?_ _ | refine Ext.trans ?_ (by assumption))))⟩
  by_cases a7 : x.seq > 2147483647
  · have HR : Hid (false = mayT x) := Lib.hid (mayT_no fun h => absurd (HHD.out.1 h.1) (by omega))
    go_enter Tryz.func6, Tryz.ntmps6
    go_wp2
    go_ret
    exact ⟨ret_bool HR.out, (by with_reducible (repeat (first | exact Ext.rfl_ _ | assumption | refine Ext.drew ?_ | refine Ext.drewN ?_ _ | refine Ext.alloc ?_ _ | refine Ext.trans ?_ (by assumption))))⟩
  have HH : Hid (headT x) := Lib.hid (HHD.out.2 (by omega))
  obtain ⟨W0, hW0⟩ : ∃ W0, W0 = w.alloc (.cells #[.int .i64 x.next, .int .i64 x.log, .int .i64 x.index, .int .i64 x.seq, .slice A x.ts.length c] 24) := ⟨_, rfl⟩
  have HX0 : Hid (Ext w W0) := Lib.hid (by rw [hW0]; exact (by with_reducible (repeat (first | exact Ext.rfl_ _ | assumption | refine Ext.drew ?_ | refine Ext.drewN ?_ _ | refine Ext.alloc ?_ _ | refine Ext.trans ?_ (by assumption)))))
  have HB0 : Hid (W0.heap[w.heap.size]? = some (.cells #[.int .i64 x.next, .int .i64 x.log, .int .i64 x.index, .int .i64 x.seq, .slice A x.ts.length c] 24)) := Lib.hid (by rw [hW0]; exact HB.out)
  have HL0 := Lib.hid (HL.out.ext HX0.out)
  clear HB
  go_enter Tryz.func6, Tryz.ntmps6
  go_wp2
  rw [← hW0]
  clear hW0 a0 a1 a2 a3 a4 a5 a6 a7
  go_loopw [3] (fun i wr => ∃ k : Nat, i = .int .i64 k ∧ k ≤ x.ts.length ∧ Ext W0 wr ∧ Hid (rgoodT x k)) (fun i _ => x.ts.length - (intOf i).toNat)
  case atStart => exact ⟨0, rfl, Nat.zero_le _, Ext.rfl_ _, Lib.hid (rgood_zero x)⟩
  case round =>
    obtain ⟨k, rfl, hk, hE, HG⟩ := hrel
    have hq := HSZ.out
    obtain ⟨v0, v1, v2, v3, v4, _⟩ := box5 HB0.out hE
    by_cases cc : (k : Int) < (x.ts.length : Int)
    rotate_left
    · have HR : Hid (true = mayT x) := Lib.hid (mayT_yes ((may_same x).2 ⟨HH.out, by have e : k = x.ts.length := (by omega); rw [← e]; exact HG.out⟩))
      go_wp2
      go_ret
      exact ⟨ret_bool HR.out, HX0.out.trans hE⟩
    obtain ⟨b, o, A1, n1', c1, A2, n2', c2, t, rfl, ht, ⟨q0, q1, q2, q3, q4⟩, hr⟩ := (HL0.out.ext hE).at_ k (by omega)
    have HT := Lib.hid hr
    have HT0 := Lib.hid ht
    have HBT := Lib.hid (heap_alloc_new wr (.cells #[.int .i64 t.num, .int .i64 t.lvl, .slice A1 n1' c1, .slice A2 n2' c2, .int .i64 t.size] 42))
    have XA : Hid (Ext W0 (wr.alloc (.cells #[.int .i64 t.num, .int .i64 t.lvl, .slice A1 n1' c1, .slice A2 n2' c2, .int .i64 t.size] 42))) := Lib.hid (hE.alloc _)
    clear hr ht
    by_cases b1 : placeT t = true
    rotate_left
    · have HR : Hid (false = mayT x) := Lib.hid (rmay_bad HT0.out fun h => b1 h.1.1)
      have d1 : placeT t = false := by simpa using b1
      clear b1
      go_wp2_with (first | (go_at_call 15; refine (rplace_any _ t _ (HT.out.ext (by with_reducible (repeat (first | exact Ext.rfl_ _ | assumption | refine Ext.drew ?_ | refine Ext.drewN ?_ _ | refine Ext.alloc ?_ _ | refine Ext.trans ?_ (by assumption)))))).mono ?_; rintro e w1 ⟨rfl, hw1⟩; rw [d1]; obtain ⟨v0, v1, v2, v3, v4, _⟩ := box5 HB0.out (w' := w1) (XA.out.trans hw1); obtain ⟨u0, u1, u2, u3, u4, _⟩ := box5 HBT.out (w' := w1) hw1))
      go_ret
      exact ⟨ret_bool HR.out, HX0.out.trans (XA.out.trans hw1)⟩
    have d1 := b1
    by_cases b2 : t.num < x.next
    rotate_left
    · have HR : Hid (false = mayT x) := Lib.hid (rmay_bad HT0.out fun h => b2 h.1.2.1)
      have d2 : t.num ≥ x.next := by omega
      clear b1 b2
      go_wp2_with (first | (go_at_call 15; refine (rplace_any _ t _ (HT.out.ext (by with_reducible (repeat (first | exact Ext.rfl_ _ | assumption | refine Ext.drew ?_ | refine Ext.drewN ?_ _ | refine Ext.alloc ?_ _ | refine Ext.trans ?_ (by assumption)))))).mono ?_; rintro e w1 ⟨rfl, hw1⟩; rw [d1]; obtain ⟨v0, v1, v2, v3, v4, _⟩ := box5 HB0.out (w' := w1) (XA.out.trans hw1); obtain ⟨u0, u1, u2, u3, u4, _⟩ := box5 HBT.out (w' := w1) hw1))
      go_ret
      exact ⟨ret_bool HR.out, HX0.out.trans (XA.out.trans hw1)⟩
    have d2 : ¬ t.num ≥ x.next := by omega
    by_cases b3 : t.num = x.log
    · have HR : Hid (false = mayT x) := Lib.hid (rmay_bad HT0.out fun h => h.1.2.2 b3)
      have d3 : (t.num == x.log) = true := by simp [b3]
      clear b1 b2 b3
      go_wp2_with (first | (go_at_call 15; refine (rplace_any _ t _ (HT.out.ext (by with_reducible (repeat (first | exact Ext.rfl_ _ | assumption | refine Ext.drew ?_ | refine Ext.drewN ?_ _ | refine Ext.alloc ?_ _ | refine Ext.trans ?_ (by assumption)))))).mono ?_; rintro e w1 ⟨rfl, hw1⟩; rw [d1]; obtain ⟨v0, v1, v2, v3, v4, _⟩ := box5 HB0.out (w' := w1) (XA.out.trans hw1); obtain ⟨u0, u1, u2, u3, u4, _⟩ := box5 HBT.out (w' := w1) hw1))
      go_ret
      exact ⟨ret_bool HR.out, HX0.out.trans (XA.out.trans hw1)⟩
    have d3 : (t.num == x.log) = false := by simp [b3]
    have HO : Hid (okT x t) := Lib.hid ⟨b1, b2, b3⟩
    clear b1 b2 b3
    go_wp2_with (first | (go_at_call 15; refine (rplace_any _ t _ (HT.out.ext (by with_reducible (repeat (first | exact Ext.rfl_ _ | assumption | refine Ext.drew ?_ | refine Ext.drewN ?_ _ | refine Ext.alloc ?_ _ | refine Ext.trans ?_ (by assumption)))))).mono ?_; rintro e w1 ⟨rfl, hw1⟩; rw [d1]; obtain ⟨v0, v1, v2, v3, v4, _⟩ := box5 HB0.out (w' := w1) (XA.out.trans hw1); obtain ⟨u0, u1, u2, u3, u4, _⟩ := box5 HBT.out (w' := w1) hw1))
    have X1 : Hid (Ext W0 w1) := Lib.hid (XA.out.trans hw1)
    have HBT1 : Hid (w1.heap[wr.heap.size]? = some (.cells #[.int .i64 t.num, .int .i64 t.lvl, .slice A1 n1' c1, .slice A2 n2' c2, .int .i64 t.size] 42)) := Lib.hid (((Ext.below hw1).block _ (Array.getElem?_eq_some_iff.1 HBT.out).1).trans HBT.out)
    have HT1 := Lib.hid (HT.out.ext ((Ext.alloc (Ext.rfl_ wr) _).trans hw1))
    obtain ⟨wo, hwo⟩ : ∃ wo, wo = wr := ⟨_, rfl⟩
    subst hwo
    clear hw1 XA HBT HT q0 q1 q2 q3 q4 v0 v1 v2 v3 v4 u0 u1 u2 u3 u4 d1 d2 d3 hE
    go_loopw [5] (fun i wr2 => ∃ j : Nat, i = .int .i64 j ∧ j ≤ k ∧ Ext w1 wr2 ∧ Hid (∀ j' u, j' < j → x.ts[j']? = some u → pairR u t)) (fun i _ => k - (intOf i).toNat)
    case atStart => exact ⟨0, rfl, Nat.zero_le _, Ext.rfl_ _, Lib.hid (fun j' u h => absurd h (by omega))⟩
    case round =>
      obtain ⟨j, rfl, hj, hE2, HJ⟩ := hrel
      have XE : Hid (Ext W0 wr) := Lib.hid (X1.out.trans hE2)
      obtain ⟨v0, v1, v2, v3, v4, _⟩ := box5 HB0.out XE.out
      obtain ⟨u0, u1, u2, u3, u4, _⟩ := box5 HBT1.out hE2
      by_cases cj : (j : Int) < (k : Int)
      rotate_left
      · go_wp2
        go_roundw
        case rel => exact ⟨k + 1, by simp, by omega, XE.out, Lib.hid (rgood_succ HG.out HT0.out HO.out (fun j' u h hu => HJ.out j' u (by omega) hu))⟩
        case measure => simp [intOf]; omega
      obtain ⟨b', o', A3, n3', c3, A4, n4', c4, pt, hbb, hpt, ⟨y0, y1, y2, y3, y4⟩, hrp⟩ := (HL0.out.ext XE.out).at_ j (by omega)
      cases hbb
      have cjn : (j : Int) < (x.ts.length : Int) := by omega
      have HP0 := Lib.hid hpt
      have HRP := Lib.hid hrp
      have HBP := Lib.hid (heap_alloc_new wr (.cells #[.int .i64 pt.num, .int .i64 pt.lvl, .slice A3 n3' c3, .slice A4 n4' c4, .int .i64 pt.size] 42))
      have XP : Hid (Ext w1 (wr.alloc (.cells #[.int .i64 pt.num, .int .i64 pt.lvl, .slice A3 n3' c3, .slice A4 n4' c4, .int .i64 pt.size] 42))) := Lib.hid (hE2.alloc _)
      have l2 : wo.heap.size < wr.heap.size := by have h1 := (Array.getElem?_eq_some_iff.1 HBT1.out).1; have h2 := hE2.size; omega
      have l3 : w.heap.size < wr.heap.size := by have h1 := (Array.getElem?_eq_some_iff.1 HB0.out).1; have h2 := XE.out.size; omega
      clear hpt hrp
      have step : Hid (∀ (h : pairR pt t), ∀ j' u, j' < j + 1 → x.ts[j']? = some u → pairR u t) := Lib.hid (fun h j' u hj' hu => by
        by_cases e : j' = j
        · subst e; rw [HP0.out] at hu; cases hu; exact h
        · exact HJ.out j' u (by omega) hu)
      by_cases b4 : pt.num = t.num
      · have HR : Hid (false = mayT x) := Lib.hid (rmay_bad HT0.out fun h => (h.2 j pt (by omega) HP0.out).1 b4)
        have d4 : (pt.num == t.num) = true := by simp [b4]
        clear b4
        go_wp2
        go_ret
        exact ⟨ret_bool HR.out, HX0.out.trans (X1.out.trans XP.out)⟩
      have d4 : (pt.num == t.num) = false := by simp [b4]
      by_cases b5 : ordT pt t < 0
      rotate_left
      · have HR : Hid (false = mayT x) := Lib.hid (rmay_bad HT0.out fun h => b5 (h.2 j pt (by omega) HP0.out).2.1)
        have HA : Hid (aheadT pt t = false) := Lib.hid (by unfold aheadT; exact decide_eq_false b5)
        clear b4 b5
        go_wp2_with (first | (go_at_call 16; refine (rahead_any _ _ pt t _ (HRP.out.ext (by with_reducible (repeat (first | exact Ext.rfl_ _ | assumption | refine Ext.drew ?_ | refine Ext.drewN ?_ _ | refine Ext.alloc ?_ _ | refine Ext.trans ?_ (by assumption))))) (HT1.out.ext XP.out)).mono ?_; rintro e w2 ⟨rfl, hw2⟩; rw [HA.out]; obtain ⟨u0, u1, u2, u3, u4, _⟩ := box5 HBT1.out (w' := w2) (XP.out.trans hw2); obtain ⟨y0, y1, y2, y3, y4, _⟩ := box5 HBP.out (w' := w2) hw2))
        go_ret
        exact ⟨ret_bool HR.out, HX0.out.trans (X1.out.trans (XP.out.trans hw2))⟩
      have HA : Hid (aheadT pt t = true) := Lib.hid (by unfold aheadT; exact decide_eq_true b5)
      by_cases b6 : pt.lvl = t.lvl
      rotate_left
      · have HQ : Hid (pairR pt t) := Lib.hid ⟨b4, b5, fun h => b6 h.1⟩
        have d6 : (pt.lvl == t.lvl) = false := by simp [b6]
        clear b4 b5 b6
        go_wp2_with (first | (go_at_call 16; refine (rahead_any _ _ pt t _ (HRP.out.ext (by with_reducible (repeat (first | exact Ext.rfl_ _ | assumption | refine Ext.drew ?_ | refine Ext.drewN ?_ _ | refine Ext.alloc ?_ _ | refine Ext.trans ?_ (by assumption))))) (HT1.out.ext XP.out)).mono ?_; rintro e w2 ⟨rfl, hw2⟩; rw [HA.out]; obtain ⟨u0, u1, u2, u3, u4, _⟩ := box5 HBT1.out (w' := w2) (XP.out.trans hw2); obtain ⟨y0, y1, y2, y3, y4, _⟩ := box5 HBP.out (w' := w2) hw2))
        go_roundw
        case rel => exact ⟨j + 1, by simp, by omega, XP.out.trans hw2, Lib.hid (step.out HQ.out)⟩
        case measure => simp [intOf]; omega
      have d6 : (pt.lvl == t.lvl) = true := by simp [b6]
      by_cases b7 : t.lvl > 0
      rotate_left
      · have HQ : Hid (pairR pt t) := Lib.hid ⟨b4, b5, fun h => b7 h.2.1⟩
        clear b4 b5 b6
        go_wp2_with (first | (go_at_call 16; refine (rahead_any _ _ pt t _ (HRP.out.ext (by with_reducible (repeat (first | exact Ext.rfl_ _ | assumption | refine Ext.drew ?_ | refine Ext.drewN ?_ _ | refine Ext.alloc ?_ _ | refine Ext.trans ?_ (by assumption))))) (HT1.out.ext XP.out)).mono ?_; rintro e w2 ⟨rfl, hw2⟩; rw [HA.out]; obtain ⟨u0, u1, u2, u3, u4, _⟩ := box5 HBT1.out (w' := w2) (XP.out.trans hw2); obtain ⟨y0, y1, y2, y3, y4, _⟩ := box5 HBP.out (w' := w2) hw2))
        go_roundw
        case rel => exact ⟨j + 1, by simp, by omega, XP.out.trans hw2, Lib.hid (step.out HQ.out)⟩
        case measure => simp [intOf]; omega
      by_cases b8 : apartT pt t = true
      · have HQ : Hid (pairR pt t) := Lib.hid ⟨b4, b5, fun h => by rw [b8] at h; cases h.2.2⟩
        have HAP := Lib.hid b8
        clear b4 b5 b6 b8
        go_wp2_with (first | (go_at_call 16; refine (rahead_any _ _ pt t _ (HRP.out.ext (by with_reducible (repeat (first | exact Ext.rfl_ _ | assumption | refine Ext.drew ?_ | refine Ext.drewN ?_ _ | refine Ext.alloc ?_ _ | refine Ext.trans ?_ (by assumption))))) (HT1.out.ext XP.out)).mono ?_; rintro e w2 ⟨rfl, hw2⟩; rw [HA.out]; obtain ⟨u0, u1, u2, u3, u4, _⟩ := box5 HBT1.out (w' := w2) (XP.out.trans hw2); obtain ⟨y0, y1, y2, y3, y4, _⟩ := box5 HBP.out (w' := w2) hw2) | (go_at_call 17; refine (rapart_any _ _ pt t _ (HRP.out.ext ((Ext.alloc (Ext.rfl_ wr) _).trans hw2)) (HT1.out.ext (XP.out.trans hw2))).mono ?_; rintro e w3 ⟨rfl, hw3⟩; rw [HAP.out]))
        go_roundw
        case rel => exact ⟨j + 1, by simp, by omega, XP.out.trans (hw2.trans hw3), Lib.hid (step.out HQ.out)⟩
        case measure => simp [intOf]; omega
      have HAP : Hid (apartT pt t = false) := Lib.hid (by simpa using b8)
      have HR : Hid (false = mayT x) := Lib.hid (rmay_bad HT0.out fun h => (h.2 j pt (by omega) HP0.out).2.2 ⟨b6, b7, HAP.out⟩)
      clear b4 b5 b6 b8
      go_wp2_with (first | (go_at_call 16; refine (rahead_any _ _ pt t _ (HRP.out.ext (by with_reducible (repeat (first | exact Ext.rfl_ _ | assumption | refine Ext.drew ?_ | refine Ext.drewN ?_ _ | refine Ext.alloc ?_ _ | refine Ext.trans ?_ (by assumption))))) (HT1.out.ext XP.out)).mono ?_; rintro e w2 ⟨rfl, hw2⟩; rw [HA.out]; obtain ⟨u0, u1, u2, u3, u4, _⟩ := box5 HBT1.out (w' := w2) (XP.out.trans hw2); obtain ⟨y0, y1, y2, y3, y4, _⟩ := box5 HBP.out (w' := w2) hw2) | (go_at_call 17; refine (rapart_any _ _ pt t _ (HRP.out.ext ((Ext.alloc (Ext.rfl_ wr) _).trans hw2)) (HT1.out.ext (XP.out.trans hw2))).mono ?_; rintro e w3 ⟨rfl, hw3⟩; rw [HAP.out]))
      go_ret
      exact ⟨ret_bool HR.out, HX0.out.trans (X1.out.trans (XP.out.trans (hw2.trans hw3)))⟩

end Go.Proofs.YteooaplimiifiaaGreat
