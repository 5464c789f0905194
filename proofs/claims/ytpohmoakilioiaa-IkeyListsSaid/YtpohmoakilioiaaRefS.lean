/- The reference's many, Bytes of the reader. Conditions: the reader reads. -/
import Derived.Test.YtpohmoakilioiaaRefR
import Derived.Test.YtpohmoakilioiaaRefB
namespace Go.Proofs.Ytpohmoakilioiaa
set_option linter.unusedSimpArgs false
set_option linter.unusedVariables false
open Go.RowKit

theorem Rd.tailM {w : World} {A : Option Addr} {n k : Nat} {x : Bs} (h : Rd w A n x) (hk : k ≤ n) : Rd w (Option.map (fun a => a.add k) A) (n - k) (x.drop k) := by
  rcases Nat.eq_zero_or_pos (n - k) with h0 | h0
  · rw [h0, List.drop_eq_nil_of_le (by rw [h.1]; omega)]; exact Rd.nil _ _
  · obtain ⟨b, o, rfl, _⟩ := h.2 (by omega)
    have e2 : (⟨b, o, none⟩ : Addr).add k = ⟨b, o + k, none⟩ := by unfold Addr.add; split <;> simp_all
    simp only [Option.map_some, e2]
    exact h.tail hk

theorem many_bad {L : Nat} (g most : Nat) (x : Bs) (w : World) (hx : Rdr1 L w g x) (hm : most ≤ B40) (hv : getN x = none) :
    Calls Try.prog 81 #[.pointer (some ⟨g, 0, none⟩), .int .i64 most] w fun e w' => e = .returned (.tuple #[.int .u64 0, .int .i64 4]) ∧ w = w' := by
  have HX := Lib.hid hx
  have HV := Lib.hid hv
  unfold B40 at hm
  clear hx hv
  go_enter Try.func81, Try.ntmps81
  go_wp2_with (go_at_call 59; refine (r1num_bad g x _ HX.out HV.out).mono ?_; rintro e w' ⟨rfl, rfl⟩)
  go_ret2
  exact ⟨rfl, rfl⟩

theorem many_long {L : Nat} (g most : Nat) (x r : Bs) (v : Nat) (w : World) (hx : Rdr1 L w g x) (hm : most ≤ B40) (hv : getN x = some (v, r)) (hl : most < v) :
    Calls Try.prog 81 #[.pointer (some ⟨g, 0, none⟩), .int .i64 most] w fun e w' => e = .returned (.tuple #[.int .u64 0, .int .i64 3]) ∧ Rdr1 L w' g r ∧ Chg g w w' := by
  have HX := Lib.hid hx
  have HV := Lib.hid hv
  have hv64 := getN_lt hv
  unfold B40 at hm
  have hi : (most : Int) < (v : Int) := by omega
  clear hx hv
  go_enter Try.func81, Try.ntmps81
  go_wp2_with (go_at_call 59; refine (r1num_ok g x r v _ HX.out HV.out).mono ?_; rintro e w' ⟨rfl, h1, h2⟩)
  go_ret2
  exact ⟨rfl, h1, h2⟩

theorem many_ok {L : Nat} (g most : Nat) (x r : Bs) (v : Nat) (w : World) (hx : Rdr1 L w g x) (hm : most ≤ B40) (hv : getN x = some (v, r)) (hl : ¬ most < v) :
    Calls Try.prog 81 #[.pointer (some ⟨g, 0, none⟩), .int .i64 most] w fun e w' => e = .returned (.tuple #[.int .u64 v, .int .i64 0]) ∧ Rdr1 L w' g r ∧ Chg g w w' := by
  have HX := Lib.hid hx
  have HV := Lib.hid hv
  have hv64 := getN_lt hv
  unfold B40 at hm
  have hi : ¬ (most : Int) < (v : Int) := by omega
  clear hx hv
  go_enter Try.func81, Try.ntmps81
  go_wp2_with (go_at_call 59; refine (r1num_ok g x r v _ HX.out HV.out).mono ?_; rintro e w' ⟨rfl, h1, h2⟩)
  go_ret2
  exact ⟨rfl, h1, h2⟩

set_option maxRecDepth 100000 in
set_option maxHeartbeats 1000000 in
theorem rb1_bad {L : Nat} (g most : Nat) (x : Bs) (w : World) (hx : Rdr1 L w g x) (hm : most ≤ B40) (hv : getB most x = none) :
    Calls Try.prog 58 #[.pointer (some ⟨g, 0, none⟩), .int .i64 most] w fun e w' => ∃ k : Int, e = .returned (.tuple #[.slice none 0 0, .int .i64 k]) ∧ (k = 3 ∨ k = 4) ∧ Rdr1 L w' g x ∧ Chg g w w' := by
  have HX := Lib.hid hx
  have HM := Lib.hid hm
  obtain ⟨A, n, c, hc, hf, hr, hnc, hn, hg, hlo⟩ := hx.cells
  have HR := Lib.hid hr
  have HG := Lib.hid hg
  have hn63 : n ≤ 1099511627776 := hn
  clear hr hg hx hn
  cases hN : getN x with
  | none =>
    have HN := Lib.hid hN
    clear hN hv hm
    go_enter Try.func58, Try.ntmps58
    go_wp2_with (go_at_call 81; refine (many_bad g most x _ HX.out HM.out HN.out).mono ?_; rintro e w' ⟨rfl, rfl⟩)
    go_ret2
    exact ⟨4, rfl, .inr rfl, Rdr1.set HG.out HR.out hlo hnc (by unfold B40; omega), (Chg.rfl_ g w).setCell 0 _⟩
  | some p =>
    obtain ⟨v, r⟩ := p
    have HN := Lib.hid hN
    by_cases hlong : most < v
    · clear hN hv hm
      go_enter Try.func58, Try.ntmps58
      go_wp2_with fail
      refine (many_long g most x r v _ HX.out HM.out HN.out hlong).mono ?_
      rintro e w1 ⟨rfl, h1, h2⟩
      obtain ⟨A1, n1, c1, hc1, hf1, _, _, _, hg1, _⟩ := h1.cells
      have HG1 := Lib.hid hg1
      clear hg1 h1
      go_wp2
      go_ret2
      exact ⟨3, rfl, .inl rfl, Rdr1.set HG1.out (HR.out.chg HG.out h2) hlo hnc (by unfold B40; omega), h2.setCell 0 _⟩
    · have hshort : r.length < v := by
        rcases Nat.lt_or_ge r.length v with h | h
        · exact h
        · rw [getB_yes hN hlong (by omega)] at hv; cases hv
      clear hN hv
      unfold B40 at hm
      go_enter Try.func58, Try.ntmps58
      go_wp2_with fail
      refine (many_ok g most x r v _ HX.out HM.out HN.out hlong).mono ?_
      rintro e w1 ⟨rfl, h1, h2⟩
      obtain ⟨A1, n1, c1, hc1, hf1, hr1, _, hn1, hg1, _⟩ := h1.cells
      have e1 := hr1.1
      have HG1 := Lib.hid hg1
      have hs : (n1 : Int) < (v : Int) := by omega
      have hn1' : n1 ≤ 1099511627776 := hn1
      have hw : IntKind.u64.wrap (n1 : Int) = (n1 : Int) := by rw [IntKind.wrap_u64]; omega
      clear hg1 h1 hr1 e1 hshort
      go_wp2
      go_ret2
      exact ⟨4, rfl, .inr rfl, Rdr1.set HG1.out (HR.out.chg HG.out h2) hlo hnc (by unfold B40; omega), h2.setCell 0 _⟩

set_option maxRecDepth 100000 in
set_option maxHeartbeats 1000000 in
theorem rb1_ok {L : Nat} (g most : Nat) (x y r : Bs) (w : World) (hx : Rdr1 L w g x) (hm : most ≤ B40) (hv : getB most x = some (y, r)) :
    Calls Try.prog 58 #[.pointer (some ⟨g, 0, none⟩), .int .i64 most] w fun e w' => ∃ v', e = .returned (.tuple #[v', .int .i64 0]) ∧ OwnB w' w.heap.size v' y ∧ Rdr1 L w' g r ∧ Chg g w w' := by
  have HX := Lib.hid hx
  have HM := Lib.hid hm
  obtain ⟨A, n, c, hc, hf, hr, hnc, hn, hg, hlo⟩ := hx.cells
  clear hr hg hx hn
  cases hN : getN x with
  | none => rw [getB_num hN] at hv; cases hv
  | some p =>
    obtain ⟨v, q⟩ := p
    have HN := Lib.hid hN
    have hlong : ¬ most < v := fun h => by rw [getB_long hN h] at hv; cases hv
    have hsh : ¬ q.length < v := fun h => by rw [getB_short hN hlong h] at hv; cases hv
    rw [getB_yes hN hlong hsh] at hv
    simp only [Option.some.injEq, Prod.mk.injEq] at hv
    obtain ⟨rfl, rfl⟩ := hv
    clear hN
    unfold B40 at hm
    go_enter Try.func58, Try.ntmps58
    go_wp2_with fail
    refine (many_ok g most x q v _ HX.out HM.out HN.out hlong).mono ?_
    rintro e w1 ⟨rfl, h1, h2⟩
    obtain ⟨A1, n1, c1, hc1, hf1, hr1, hnc1, hn1, hg1, hlo1⟩ := h1.cells
    have e1 := hr1.1
    have HR1 := Lib.hid hr1
    have HG1 := Lib.hid hg1
    have HE1 := Lib.hid e1
    have hs : ¬ (n1 : Int) < (v : Int) := by omega
    have hs2 : v ≤ n1 := by omega
    have hn1' : n1 ≤ 1099511627776 := hn1
    have hw : IntKind.u64.wrap (n1 : Int) = (n1 : Int) := by rw [IntKind.wrap_u64]; omega
    clear hg1 h1 hr1 e1 hsh
    have htk : Rd w1 A1 v (q.take v) := by
      refine ⟨by rw [List.length_take, HE1.out]; omega, fun h0 => ?_⟩
      obtain ⟨b, o, e, hcl⟩ := HR1.out.2 (by omega)
      refine ⟨b, o, e, fun j hj => ?_⟩
      rw [List.length_take] at hj
      rw [List.getElem_take]
      exact hcl j (by omega)
    have HTK := Lib.hid htk
    have hsz : w.heap.size ≤ w1.heap.size := h2.size
    have H2 := Lib.hid h2
    have hql : ([] : Bs).length + (q.take v).length ≤ B47 := by rw [List.length_take, HE1.out]; simp; unfold B47; omega
    have HQL := Lib.hid hql
    have hd : (decide (n1 < v)) = false := decide_eq_false (by omega)
    clear htk h2 hql
    go_wp2_with (at_builtin; refine wp_app2 rfl _ _ rfl w.heap.size (.slice none 0 0) [] rfl (OwnB.nil _ _) A1 v _ (q.take v) rfl HTK.out HQL.out hsz ?_; intro A5 n5 c5 w2 o2 r2 l2 i2 _ _ g2; have x2 : Ext w1 w2 := Ext.grown (Ext.rfl_ _) g2 (fun k hk => (by cases hk)); obtain ⟨hc2, hf2, hg2⟩ := box1 HG1.out x2; have HG2 := Lib.hid hg2; clear hg2 g2)
    all_goals (rw [List.nil_append] at o2)
    · have e : q.drop v = [] := List.drop_eq_nil_of_le (by rw [HE1.out]; omega)
      go_ret2
      refine ⟨_, rfl, o2.chg HG2.out (by decide) ((Chg.rfl_ g w2).setCell 0 _), ?_, (H2.out.ext x2).setCell 0 _⟩
      rw [e]
      have z : n1 - v = 0 := by omega
      exact Rdr1.set HG2.out (by rw [z]; exact Rd.nil _ _) (fun h0 => absurd h0 (by omega)) (by omega) (by rw [z]; exact Nat.zero_le _)
    · go_ret2
      exact ⟨_, rfl, o2.chg HG2.out (by decide) ((Chg.rfl_ g w2).setCell 0 _), Rdr1.set HG2.out ((HR1.out.ext x2).tailM hs2) hlo1.tail (by omega) (by unfold B40; omega), (H2.out.ext x2).setCell 0 _⟩

theorem rb1_any {L : Nat} (g most : Nat) (x : Bs) (w : World) (hx : Rdr1 L w g x) (hm : most ≤ B40) :
    Calls Try.prog 58 #[.pointer (some ⟨g, 0, none⟩), .int .i64 most] w fun e w' => ∃ A n c k y r, e = .returned (.tuple #[.slice A n c, .int .i64 k]) ∧ BytesOut most x k y r ∧ OwnB w' w.heap.size (.slice A n c) y ∧ Rdr1 L w' g r ∧ Chg g w w' := by
  cases h : getB most x with
  | none =>
    refine (rb1_bad g most x w hx hm h).mono ?_
    rintro e w' ⟨k, rfl, hk, h1, h2⟩
    exact ⟨none, 0, 0, k, [], x, rfl, .inr ⟨by omega, h, rfl, rfl⟩, OwnB.nil _ _, h1, h2⟩
  | some p =>
    obtain ⟨y, r⟩ := p
    refine (rb1_ok g most x y r w hx hm h).mono ?_
    rintro e w' ⟨v', rfl, ho, h1, h2⟩
    obtain ⟨A, n, c, rfl, hl, hr, hi⟩ := ho.formN
    exact ⟨A, n, c, 0, y, r, rfl, .inl ⟨rfl, h⟩, ho, h1, h2⟩

end Go.Proofs.Ytpohmoakilioiaa
