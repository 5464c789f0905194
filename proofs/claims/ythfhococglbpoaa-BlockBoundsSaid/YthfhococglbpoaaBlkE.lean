/- Contract of block.entry: the next entry behind a key, or it gives up. Conditions: the reader reads, the key before reads. -/
/- Contracts of the closure that block.open defers: on a frame that gave up, on one that returns. Conditions: the three results' cells stand. -/
import Derived.Test.YthfhococglbpoaaBlkA
import Derived.Test.YthfhococglbpoaaSkM
import Derived.Recover
namespace Go.Proofs.Ythfhococglbpoaa
set_option linter.unusedSimpArgs false
set_option linter.unusedVariables false
open Go.RowKit

theorem Rd.pre {w : World} {A : Option Addr} {n k : Nat} {x : Bs} (h : Rd w A n x) (hk : k ≤ n) : Rd w A k (x.take k) := by
  refine ⟨by rw [List.length_take, h.1]; omega, fun h0 => ?_⟩
  obtain ⟨b, o, e, hcl⟩ := h.2 (by omega)
  refine ⟨b, o, e, fun j hj => ?_⟩
  have hj' : j < x.length := by rw [List.length_take] at hj; omega
  rw [hcl j hj']
  simp

theorem pEnt_n {p x : Bs} (h : getN x = none) : pEnt p x = none := by unfold pEnt; rw [h]
theorem pEnt_s {p x x1 : Bs} {n : Nat} (h : getN x = some (n, x1)) (hs : p.length < n) : pEnt p x = none := by unfold pEnt; rw [h]; simp only; rw [if_pos hs]
theorem pEnt_b {p x x1 : Bs} {n : Nat} (h : getN x = some (n, x1)) (hb : getB 32 x1 = none) : pEnt p x = none := by
  unfold pEnt; rw [h]; simp only; split
  · rfl
  · rw [hb]
theorem pEnt_q {p x x1 x2 y : Bs} {n : Nat} (h : getN x = some (n, x1)) (hb : getB 32 x1 = some (y, x2)) (hq : getN x2 = none) : pEnt p x = none := by
  unfold pEnt; rw [h]; simp only; split
  · rfl
  · rw [hb]; simp only; rw [hq]
theorem pEnt_k {p x x1 x2 x3 y : Bs} {n s : Nat} (h : getN x = some (n, x1)) (hb : getB 32 x1 = some (y, x2)) (hq : getN x2 = some (s, x3)) (hk : getN x3 = none) : pEnt p x = none := by
  unfold pEnt; rw [h]; simp only; split
  · rfl
  · rw [hb]; simp only; rw [hq]; simp only; rw [hk]
theorem pEnt_all {p x x1 x2 x3 x4 y : Bs} {n s k : Nat} (h : getN x = some (n, x1)) (hn : ¬ p.length < n) (hb : getB 32 x1 = some (y, x2)) (hq : getN x2 = some (s, x3)) (hk : getN x3 = some (k, x4)) :
    pEnt p x = if 2147483647 < s ∨ 2 < k then none else if k = 1 then (match getB 65536 x4 with | none => none | some (v, x5) => some (⟨p.take n ++ y, s, 1, v⟩, x5)) else some (⟨p.take n ++ y, s, k, []⟩, x4) := by
  unfold pEnt; rw [h]; simp only; rw [if_neg hn, hb]; simp only; rw [hq]; simp only; rw [hk]; rfl

theorem Rdr.setE {w : World} {g k : Nat} {x : Bs} {t : TypeId} {A B A' B' : Option Addr} {n c m d n' c' m' d' : Nat} {s q s' q' : Int} (h : Rdr w g x) (hk : w.heap[k]? = some (.cells #[.slice A n c, .int .i64 s, .int .i64 q, .slice B m d] t (0, 0))) (hne : g ≠ k) :
    Rdr ((((w.setCell ⟨k, 0, none⟩ (.slice A' n' c')).setCell ⟨k, 1, none⟩ (.int .i64 s')).setCell ⟨k, 2, none⟩ (.int .i64 q')).setCell ⟨k, 3, none⟩ (.slice B' m' d')) g x := by
  have h1 : (w.setCell ⟨k, 0, none⟩ (.slice A' n' c')).heap[k]? = some (.cells #[.slice A' n' c', .int .i64 s, .int .i64 q, .slice B m d] t (0, 0)) := by simp [World.setCell, Array.getElem?_modify, hk]
  have h2 : ((w.setCell ⟨k, 0, none⟩ (.slice A' n' c')).setCell ⟨k, 1, none⟩ (.int .i64 s')).heap[k]? = some (.cells #[.slice A' n' c', .int .i64 s', .int .i64 q, .slice B m d] t (0, 0)) := by simp [World.setCell, Array.getElem?_modify, hk]
  have h3 : (((w.setCell ⟨k, 0, none⟩ (.slice A' n' c')).setCell ⟨k, 1, none⟩ (.int .i64 s')).setCell ⟨k, 2, none⟩ (.int .i64 q')).heap[k]? = some (.cells #[.slice A' n' c', .int .i64 s', .int .i64 q', .slice B m d] t (0, 0)) := by simp [World.setCell, Array.getElem?_modify, hk]
  exact (((h.setBlk hk four_no hne 0 _).setBlk h1 four_no hne 1 _).setBlk h2 four_no hne 2 _).setBlk h3 four_no hne 3 _
theorem Chg.setNew' {g : Nat} {a w : World} (h : Chg g a w) {p : Addr} (hp : a.heap.size ≤ p.block) (u : Value) : Chg g a (w.setCell p u) :=
  ⟨h.os, h.tape, h.output, by simpa [World.setCell] using h.size, fun k hk hne => (Below.heap_setCell _ _ _ _ (fun e => by omega)).trans (h.block k hk hne)⟩

set_option maxRecDepth 100000 in
set_option maxHeartbeats 4000000 in
theorem entry_any (g : Nat) (B : Option Addr) (m d : Nat) (p x : Bs) (w : World) (hx : Rdr w g x) (hp : Rd w B m p) (hmd : m ≤ d) (hm : m ≤ 65536) :
    Calls Try.prog 60 #[.pointer (some ⟨g, 0, none⟩), .slice B m d] w fun e w' => ((∃ v y r, e = .returned v ∧ pEnt p x = some (y, r) ∧ FrE w' w.heap.size v y ∧ Rdr w' g r) ∨ (e = .panicked [{ v := .iface 87 (.agg #[]), recovered := false }] ∧ pEnt p x = none)) ∧ Chg g w w' := by
  have hml := hp.1
  have hgw := hx.lt
  have hz := blk1 w (.cells #[.slice none 0 0, .int .i64 0, .int .i64 0, .slice none 0 0] 28)
  have HZ := Lib.hid hz
  have HP := Lib.hid hp
  have e0 : Ext w (w.alloc (.cells #[.slice none 0 0, .int .i64 0, .int .i64 0, .slice none 0 0] 28)) := (by with_reducible (repeat (first | exact Ext.rfl_ _ | assumption | refine Ext.drew ?_ | refine Ext.drewN ?_ _ | refine Ext.alloc ?_ _ | refine Ext.trans ?_ (by assumption))))
  have hqm : IntKind.u64.wrap (m : Int) = m := by rw [IntKind.wrap_u64]; omega
  have HX := Lib.hid hx
  clear hz hp hx
  go_enter Try.func60, Try.ntmps60
  go_wp2_with fail
  refine (rnum_any g x _ (HX.out.ext (by with_reducible (repeat (first | exact Ext.rfl_ _ | assumption | refine Ext.drew ?_ | refine Ext.drewN ?_ _ | refine Ext.alloc ?_ _ | refine Ext.trans ?_ (by assumption)))))).mono ?_
  rintro e w1 ⟨v1, k1, r1, rfl, ho1, hv1, hr1, hc1⟩
  have HC1 := Lib.hid ((Chg.of_ext e0).trans hc1)
  have HZ1 := Lib.hid (hc1.blk HZ.out (by omega))
  have HP1 := Lib.hid ((HX.out.ext e0).rd (HP.out.ext e0) hc1)
  have HO1 := Lib.hid ho1
  clear HZ HP HX ho1 hc1 e0
  by_cases q1 : k1 = 0
  · subst q1
    have HG1 : Hid (getN x = some (v1, r1)) := Lib.hid (by
      rcases HO1.out with ⟨_, h⟩ | ⟨h, _⟩
      · exact h
      · exact absurd rfl h)
    by_cases q1b : v1 ≤ m
    · have q1i : (v1 : Int) ≤ (m : Int) := by omega
      have hnl : ¬ p.length < v1 := by omega
      go_wp2_with (go_at_call 56; refine (ask_yes _).mono ?_; rintro e w' ⟨rfl, rfl⟩)
      refine (rbytes_any g 32 r1 _ hr1 (by decide)).mono ?_
      rintro e w2 ⟨A2, n2, c2, k2, y2, r2, rfl, ho2, hown2, hrd2, hnc2, hi2, hr2, hc2⟩
      have HC2 := Lib.hid (HC1.out.trans hc2)
      have HZ2 := Lib.hid (hc2.blk HZ1.out (by omega))
      have HP2 := Lib.hid (hr1.rd HP1.out hc2)
      have HO2 := Lib.hid ho2
      have HW2 := Lib.hid hown2
      have s12 := hc2.size
      have s01 := HC1.out.size
      clear HZ1 HP1 ho2 hc2 hr1 hi2 HC1 hown2
      by_cases q2 : k2 = 0
      · subst q2
        have HG2 : Hid (getB 32 r1 = some (y2, r2)) := Lib.hid (by
          rcases HO2.out with ⟨_, h⟩ | ⟨h, _⟩
          · exact h
          · exact absurd rfl h)
        have hy2 : y2.length ≤ 32 := getB_le HG2.out
        have hn2 := hrd2.1
        have HRD2 := Lib.hid hrd2
        clear hrd2
        go_wp2_with (go_at_call 56; refine (ask_yes _).mono ?_; rintro e w' ⟨rfl, rfl⟩)
        refine (rnum_any g r2 _ hr2).mono ?_
        rintro e w3 ⟨v3, k3, r3, rfl, ho3, hv3, hr3, hc3⟩
        have HC3 := Lib.hid (HC2.out.trans hc3)
        have HZ3 := Lib.hid (hc3.blk HZ2.out (by omega))
        have HP3 := Lib.hid (hr2.rd HP2.out hc3)
        have HRD3 := Lib.hid (hr2.rd HRD2.out hc3)
        have HO3 := Lib.hid ho3
        have s23 := hc3.size
        clear HZ2 HP2 ho3 hc3 hr2 HC2 HRD2 HO2 HW2
        go_wp2_with fail
        refine (rnum_any g r3 _ hr3).mono ?_
        rintro e w4 ⟨v4, k4, r4, rfl, ho4, hv4, hr4, hc4⟩
        have HC4 := Lib.hid (HC3.out.trans hc4)
        have HZ4 := Lib.hid (hc4.blk HZ3.out (by omega))
        have HP4 := Lib.hid (hr3.rd HP3.out hc4)
        have HRD4 := Lib.hid (hr3.rd HRD3.out hc4)
        have HO4 := Lib.hid ho4
        have s34 := hc4.size
        clear HZ3 HP3 ho4 hc4 hr3 HC3 HRD3
        by_cases q3 : k3 = 0
        · subst q3
          have HG3 : Hid (getN r2 = some (v3, r3)) := Lib.hid (by
            rcases HO3.out with ⟨_, h⟩ | ⟨h, _⟩
            · exact h
            · exact absurd rfl h)
          by_cases q4 : k4 = 0
          · subst q4
            have HG4 : Hid (getN r3 = some (v4, r4)) := Lib.hid (by
              rcases HO4.out with ⟨_, h⟩ | ⟨h, _⟩
              · exact h
              · exact absurd rfl h)
            have hall := pEnt_all HG1.out hnl HG2.out HG3.out HG4.out
            have HALL := Lib.hid hall
            clear hall
            by_cases q5 : v3 ≤ 2147483647
            · have q5i : (v3 : Int) ≤ 2147483647 := by omega
              by_cases q6 : v4 ≤ 2
              · have q6i : (v4 : Int) ≤ 2 := by omega
                have hq3 : IntKind.i64.wrap (v3 : Int) = v3 := by rw [IntKind.wrap_i64]; omega
                have hq4 : IntKind.i64.wrap (v4 : Int) = v4 := by rw [IntKind.wrap_i64]; omega
                have hvd : v1 ≤ d := by omega
                have hvdi : (v1 : Int) ≤ (d : Int) := by omega
                go_wp2_with (go_at_call 56; refine (ask_yes _).mono ?_; rintro e w' ⟨rfl, rfl⟩)
                have hkl : (p.take v1 ++ y2).length ≤ 70000 := by rw [List.length_append, List.length_take]; omega
                refine (concat_any _ 2 2 [p.take v1, y2] _ (RdBB.new2 (HP4.out.pre q1b) HRD4.out) (by decide) (by simp; unfold B47; omega)).mono ?_
                rintro e w5 ⟨v5, rfl, o5, hw5⟩
                have hfl2 : [p.take v1, y2].flatten = p.take v1 ++ y2 := by simp
                rw [hfl2] at o5
                obtain ⟨ky, hky⟩ : ∃ ky, ky = p.take v1 ++ y2 := ⟨_, rfl⟩
                rw [← hky] at o5 hkl
                have HKY := Lib.hid hky
                obtain ⟨A5, n5, c5, rfl, l5, rd5, i5⟩ := o5.formN
                have e45 : Ext w4 w5 := (by with_reducible (repeat (first | exact Ext.rfl_ _ | assumption | refine Ext.drew ?_ | refine Ext.drewN ?_ _ | refine Ext.alloc ?_ _ | refine Ext.trans ?_ (by assumption))))
                have s45 := e45.size
                have hOW := o5.mono (base' := w.heap.size + 1) (by rw [World.size_alloc]; have := HZ4.out; have := (Array.getElem?_eq_some_iff.1 this).1; omega)
                have HOW := Lib.hid hOW
                have HZ5 := Lib.hid (e45.blk HZ4.out)
                have HC5 := Lib.hid (HC4.out.ext e45)
                have HR5 := Lib.hid (hr4.ext e45)
                have hgw4 : g < w4.heap.size := hr4.lt
                have hw05 : w.heap.size < w5.heap.size := (Array.getElem?_eq_some_iff.1 HZ5.out).1
                have hn5 := rd5.1
                clear hky hfl2 o5 hOW hw5 i5 rd5 hr4 HZ4 HC4 HP4 HRD4
                have hX5 := blk1 w5 (.cells #[.slice A5 n5 c5, .int .i64 (v3 : Int), .int .i64 (v4 : Int), .slice none 0 0] 28)
                have hE5 : Ext w5 (w5.alloc (.cells #[.slice A5 n5 c5, .int .i64 (v3 : Int), .int .i64 (v4 : Int), .slice none 0 0] 28)) := Ext.alloc (Ext.rfl_ w5) _
                have HX5 := Lib.hid hX5
                have HE5 := Lib.hid hE5
                clear hX5 hE5
                obtain ⟨z0, z1, z2, z3, y0, y1, y2f, y3⟩ := cells4 HZ5.out
                obtain ⟨b0, b1, b2, b3, d0, d1, d2, d3⟩ := cells4 HX5.out
                by_cases hv41 : v4 = 1
                · subst hv41
                  go_wp2_with fail
                  refine (rbytes_any g 65536 r4 _ (HR5.out.ext (by with_reducible (repeat (first | exact Ext.rfl_ _ | assumption | refine Ext.drew ?_ | refine Ext.drewN ?_ _ | refine Ext.alloc ?_ _ | refine Ext.trans ?_ (by assumption))))) (by decide)).mono ?_
                  rintro e w6 ⟨A6, n6, c6, k6, y6, r6, rfl, ho6, hown6, hrd6, hnc6, hi6, hr6, hc6⟩
                  have HZ6 := Lib.hid (hc6.blk (HE5.out.blk HZ5.out) (by omega))
                  have HX6 := Lib.hid (hc6.blk HX5.out (by omega))
                  have HC6 := Lib.hid ((HC5.out.ext HE5.out).trans hc6)
                  have HOW6 := Lib.hid ((HOW.out.ext HE5.out).chgR (HR5.out.ext HE5.out) hc6)
                  have s56 : w5.heap.size < w6.heap.size := (Array.getElem?_eq_some_iff.1 HX6.out).1
                  have HO6 := Lib.hid ho6
                  have HOV := Lib.hid hown6
                  have hy6 : y6.length ≤ 65536 := by
                    rcases ho6 with ⟨_, h2⟩ | ⟨_, _, h2, _⟩
                    · exact getB_le h2
                    · rw [h2]; simp
                  have HR6 := Lib.hid hr6
                  clear ho6 hown6 hrd6 hi6 hr6 hc6 HZ5 HX5 HC5 HOW HR5 HE5 z0 z1 z2 z3 y0 y1 y2f y3 b0 b1 b2 b3 d0 d1 d2 d3
                  obtain ⟨z0, z1, z2, z3, y0, y1, y2f, y3⟩ := cells4 HZ6.out
                  obtain ⟨b0, b1, b2, b3, d0, d1, d2, d3⟩ := cells4 HX6.out
                  have HC7 := Lib.hid (HC6.out.setNew' (p := ⟨w5.heap.size, 3, none⟩) (by simp; omega) (.slice A6 n6 c6))
                  by_cases k60 : k6 = 0
                  · subst k60
                    have hok : pEnt p x = some (⟨ky, v3, 1, y6⟩, r6) := by
                      rw [HALL.out, if_neg (by omega), if_pos trivial]
                      rcases HO6.out with ⟨_, h⟩ | ⟨h, _⟩
                      · rw [h, HKY.out]
                      · exact absurd rfl h
                    have HOK := Lib.hid hok
                    clear hok
                    go_wp2_with (go_at_call 56; refine (ask_yes _).mono ?_; rintro e w' ⟨rfl, rfl⟩)
                    refine bodyPost_ret (v := .agg #[.slice A5 n5 c5, .int .i64 (v3 : Int), .int .i64 1, .slice A6 n6 c6]) (by simp [results, Try.f60, go_sem, z0, z1, z2, z3]) rfl ?_
                    refine ⟨.inl ⟨_, ⟨ky, v3, 1, y6⟩, r6, rfl, HOK.out, ?_, ?_⟩, ?_⟩
                    · refine FrE.mk_ ?_ ?_ rfl rfl (by dsimp only; unfold B47; omega) (by dsimp only; unfold B47; omega)
                      · exact (((((HOW6.out.chg HX6.out (by decide) ((Chg.rfl_ _ _).setCell 3 (.slice A6 n6 c6))).setLow (by simp) _).setLow (by simp) _).setLow (by simp) _).setLow (by simp) _).mono (Nat.le_succ _)
                      · exact (((((HOV.out.chg HX6.out (by decide) ((Chg.rfl_ _ _).setCell 3 (.slice A6 n6 c6))).setLow (by simp; omega) _).setLow (by simp; omega) _).setLow (by simp; omega) _).setLow (by simp; omega) _).mono (by simp; omega)
                    · exact (HR6.out.setBlk HX6.out four_no (by omega) 3 _).setE ((Below.heap_setCell _ ⟨w5.heap.size, 3, none⟩ _ _ (by simp; omega)).trans HZ6.out) (by omega)
                    · exact (((HC7.out.setNew' (Nat.le_refl _) _).setNew' (Nat.le_refl _) _).setNew' (Nat.le_refl _) _).setNew' (Nat.le_refl _) _
                  · have k6b : (k6 == 0) = false := by rw [beq_eq_false_iff_ne]; exact k60
                    have hbad : pEnt p x = none := by
                      rw [HALL.out, if_neg (by omega), if_pos trivial]
                      rcases HO6.out with ⟨h, _⟩ | ⟨_, h, _⟩
                      · exact absurd h k60
                      · rw [h]
                    have HBAD := Lib.hid hbad
                    clear hbad
                    go_wp2_with (go_at_call 56; refine (ask_no _).mono ?_; rintro e w' ⟨rfl, rfl⟩)
                    exact ⟨rfl, .inr ⟨rfl, HBAD.out⟩, HC7.out⟩
                · have hv4b : ((v4 : Int) == 1) = false := by rw [beq_eq_false_iff_ne]; omega
                  have hok : pEnt p x = some (⟨ky, v3, v4, []⟩, r4) := by
                    rw [HALL.out, if_neg (by omega), if_neg hv41, HKY.out]
                  have HOK := Lib.hid hok
                  clear hok
                  go_wp2
                  refine bodyPost_ret (v := .agg #[.slice A5 n5 c5, .int .i64 (v3 : Int), .int .i64 (v4 : Int), .slice none 0 0]) (by simp [results, Try.f60, go_sem, z0, z1, z2, z3, hw05]) rfl ?_
                  refine ⟨.inl ⟨_, ⟨ky, v3, v4, []⟩, r4, rfl, HOK.out, ?_, ?_⟩, ?_⟩
                  · refine FrE.mk_ ?_ (OwnB.nil _ _) rfl rfl (by dsimp only; unfold B47; omega) (by simp)
                    exact (((((HOW.out.setLow (by simp) _).setLow (by simp) _).setLow (by simp) _).setLow (by simp) _).mono (Nat.le_succ _)).ext (Ext.alloc (Ext.rfl_ _) _)
                  · exact (HR5.out.setE HZ5.out (by omega)).ext (Ext.alloc (Ext.rfl_ _) _)
                  · exact ((((HC5.out.setNew' (Nat.le_refl _) _).setNew' (Nat.le_refl _) _).setNew' (Nat.le_refl _) _).setNew' (Nat.le_refl _) _).ext (Ext.alloc (Ext.rfl_ _) _)
              · have q6i : ¬ (v4 : Int) ≤ 2 := by omega
                have d6 : decide (v4 ≤ 2) = false := decide_eq_false q6
                have d6i : decide ((v4 : Int) ≤ 2) = false := decide_eq_false q6i
                have hbad : pEnt p x = none := by rw [HALL.out, if_pos (by omega)]
                have HBAD := Lib.hid hbad
                clear hbad
                go_wp2_with (go_at_call 56; refine (ask_no _).mono ?_; rintro e w' ⟨rfl, rfl⟩)
                exact ⟨rfl, .inr ⟨rfl, HBAD.out⟩, HC4.out⟩
            · have q5i : ¬ (v3 : Int) ≤ 2147483647 := by omega
              have d5 : decide (v3 ≤ 2147483647) = false := decide_eq_false q5
              have d5i : decide ((v3 : Int) ≤ 2147483647) = false := decide_eq_false q5i
              have hbad : pEnt p x = none := by rw [HALL.out, if_pos (by omega)]
              have HBAD := Lib.hid hbad
              clear hbad
              go_wp2_with (go_at_call 56; refine (ask_no _).mono ?_; rintro e w' ⟨rfl, rfl⟩)
              exact ⟨rfl, .inr ⟨rfl, HBAD.out⟩, HC4.out⟩
          · have q4b : (k4 == 0) = false := by rw [beq_eq_false_iff_ne]; exact q4
            have hbad : pEnt p x = none := by
              rcases HO4.out with ⟨h, _⟩ | ⟨_, h, _⟩
              · exact absurd h q4
              · exact pEnt_k HG1.out HG2.out HG3.out h
            have HBAD := Lib.hid hbad
            clear hbad
            go_wp2_with (go_at_call 56; refine (ask_no _).mono ?_; rintro e w' ⟨rfl, rfl⟩)
            exact ⟨rfl, .inr ⟨rfl, HBAD.out⟩, HC4.out⟩
        · have q3b : (k3 == 0) = false := by rw [beq_eq_false_iff_ne]; exact q3
          have hbad : pEnt p x = none := by
            rcases HO3.out with ⟨h, _⟩ | ⟨_, h, _⟩
            · exact absurd h q3
            · exact pEnt_q HG1.out HG2.out h
          have HBAD := Lib.hid hbad
          clear hbad
          go_wp2_with (go_at_call 56; refine (ask_no _).mono ?_; rintro e w' ⟨rfl, rfl⟩)
          exact ⟨rfl, .inr ⟨rfl, HBAD.out⟩, HC4.out⟩
      · have q2b : (k2 == 0) = false := by rw [beq_eq_false_iff_ne]; exact q2
        have hbad : pEnt p x = none := by
          rcases HO2.out with ⟨h, _⟩ | ⟨_, h, _⟩
          · exact absurd h q2
          · exact pEnt_b HG1.out h
        have HBAD := Lib.hid hbad
        clear hbad
        go_wp2_with (go_at_call 56; refine (ask_no _).mono ?_; rintro e w' ⟨rfl, rfl⟩)
        exact ⟨rfl, .inr ⟨rfl, HBAD.out⟩, HC2.out⟩
    · have q1i : ¬ (v1 : Int) ≤ (m : Int) := by omega
      have d1 : decide (v1 ≤ m) = false := decide_eq_false q1b
      have d1i : decide ((v1 : Int) ≤ (m : Int)) = false := decide_eq_false q1i
      have hbad : pEnt p x = none := pEnt_s HG1.out (by omega)
      have HBAD := Lib.hid hbad
      clear hbad
      go_wp2_with (go_at_call 56; refine (ask_no _).mono ?_; rintro e w' ⟨rfl, rfl⟩)
      exact ⟨rfl, .inr ⟨rfl, HBAD.out⟩, HC1.out⟩
  · have q1b : (k1 == 0) = false := by rw [beq_eq_false_iff_ne]; exact q1
    have hbad : pEnt p x = none := by
      rcases HO1.out with ⟨h, _⟩ | ⟨_, h, _⟩
      · exact absurd h q1
      · exact pEnt_n h
    have HBAD := Lib.hid hbad
    clear hbad
    go_wp2_with (go_at_call 56; refine (ask_no _).mono ?_; rintro e w' ⟨rfl, rfl⟩)
    exact ⟨rfl, .inr ⟨rfl, HBAD.out⟩, HC1.out⟩

open Go.RowKit

theorem assert_none (w : World) : (Instr.typeAssert (.iface 87 (.agg #[])) 20 87 true).run Try.prog w = .ok (.tuple #[.agg #[], .bool true]) w := by
  simp [Instr.typeAssert, run_underlying Try.underlying87]
theorem assert_nil (w : World) : (Instr.typeAssert .nilIface 20 87 true).run Try.prog w = .ok (.tuple #[.agg #[], .bool false]) w := by
  simp [Instr.typeAssert, run_underlying Try.underlying87, zeroValue]
  rfl

set_option maxRecDepth 100000 in
theorem catch_panic (a b c : Nat) (u1 u2 u3 : Value) (w : World) (h1 : w.cell? ⟨a, 0, none⟩ = some u1) (h2 : w.cell? ⟨b, 0, none⟩ = some u2) (h3 : w.cell? ⟨c, 0, none⟩ = some u3) (f1 : w.frozen? ⟨a, 0, none⟩ = false) (f2 : w.frozen? ⟨b, 0, none⟩ = false) (f3 : w.frozen? ⟨c, 0, none⟩ = false) (l1 : a < w.heap.size) (l2 : b < w.heap.size) (l3 : c < w.heap.size) (hab : a ≠ b) (hac : a ≠ c) (hbc : b ≠ c) :
    CallsD Try.prog 55 #[.pointer (some ⟨a, 0, none⟩), .pointer (some ⟨b, 0, none⟩), .pointer (some ⟨c, 0, none⟩)] (.panicking [{ v := .iface 87 (.agg #[]), recovered := false }]) w fun e u' w' =>
      e = .returned (.tuple #[]) ∧ u' = .panicking [{ v := .iface 87 (.agg #[]), recovered := true }] ∧
      w' = (((w.setCell ⟨a, 0, none⟩ (.slice none 0 0)).setCell ⟨b, 0, none⟩ (.slice none 0 0)).setCell ⟨c, 0, none⟩ (.int .i64 4)).alloc (.cells #[] 87) := by
  refine callsD_of_wpS Try.func55 rfl fun c₀ cs hu => ?_
  apply wpS_seq
  apply wpS_region
  simp [wpOpsS, go_sem, recoverD, hu, assert_none, Try.ntmps55, Exit.thenS]
  apply wpS_seq
  apply wpS_region
  simp [wpOpsS, go_sem, Exit.thenS]
  refine wpS_cond (t := true) (by simp [Act.eval, Array.replicate]) ?_
  simp only [if_true]
  apply wpS_region
  have k2 : (w.setCell ⟨a, 0, none⟩ (.slice none 0 0)).cell? ⟨b, 0, none⟩ = some u2 := by
    rw [World.cell?_setCell_other w ⟨a, 0, none⟩ ⟨b, 0, none⟩ _ (fun e => hab (by cases e; rfl))]; exact h2
  have k3 : ((w.setCell ⟨a, 0, none⟩ (.slice none 0 0)).setCell ⟨b, 0, none⟩ (.slice none 0 0)).cell? ⟨c, 0, none⟩ = some u3 := by
    rw [World.cell?_setCell_other _ ⟨b, 0, none⟩ ⟨c, 0, none⟩ _ (fun e => hbc (by cases e; rfl)), World.cell?_setCell_other w ⟨a, 0, none⟩ ⟨c, 0, none⟩ _ (fun e => hac (by cases e; rfl))]; exact h3
  simp [wpOpsS, go_sem, h1, k2, k3, f1, f2, f3, l1, l2, l3, bodyPostS, results, Try.results55]

set_option maxRecDepth 100000 in
theorem catch_idle (a b c : Nat) (w : World) :
    CallsD Try.prog 55 #[.pointer (some ⟨a, 0, none⟩), .pointer (some ⟨b, 0, none⟩), .pointer (some ⟨c, 0, none⟩)] .returning w fun e u' w' =>
      e = .returned (.tuple #[]) ∧ u' = .returning ∧ w' = w.alloc (.cells #[] 87) := by
  refine callsD_of_wpS Try.func55 rfl fun c₀ cs hu => ?_
  apply wpS_seq
  apply wpS_region
  simp [wpOpsS, go_sem, recoverD, hu, assert_nil, Try.ntmps55, Exit.thenS]
  apply wpS_seq
  apply wpS_region
  simp [wpOpsS, go_sem, Exit.thenS]
  refine wpS_cond (t := false) (by simp [Act.eval, Array.replicate]) ?_
  simp only [Bool.false_eq_true, if_false]
  refine wpS_of_wp (wp_skip ?_)
  cases c₀
  simp_all [bodyPostS, results, Try.results55]
end Go.Proofs.Ythfhococglbpoaa
