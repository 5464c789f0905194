/- Contract of the reference's entry of blocks: the next entry behind a key, where it may be. Conditions: the reader reads, the key before reads. -/
import Derived.Test.YthfhococglbpoaaBlkU
import Derived.Test.YthfhococglbpoaaRefRM
namespace Go.Proofs.Ythfhococglbpoaa
set_option linter.unusedSimpArgs false
set_option linter.unusedVariables false
open Go.RowKit

theorem opN_or (b : Bs) : opN b = 0 ∨ opN b = 4 := by unfold opN; split <;> simp
theorem isblk_self {xs : List Ent} (h : mayL xs = true) : IsBlk (blkB xs) xs := ⟨h, rfl⟩
theorem Rdr1.setE {L : Nat} {w : World} {g k : Nat} {x : Bs} {t : TypeId} {A B A' B' : Option Addr} {n c m d n' c' m' d' : Nat} {s q s' q' : Int} (h : Rdr1 L w g x) (hk : w.heap[k]? = some (.cells #[.slice A n c, .int .i64 s, .int .i64 q, .slice B m d] t (0, 0))) (hne : g ≠ k) :
    Rdr1 L ((((w.setCell ⟨k, 0, none⟩ (.slice A' n' c')).setCell ⟨k, 1, none⟩ (.int .i64 s')).setCell ⟨k, 2, none⟩ (.int .i64 q')).setCell ⟨k, 3, none⟩ (.slice B' m' d')) g x := by
  have h1 : (w.setCell ⟨k, 0, none⟩ (.slice A' n' c')).heap[k]? = some (.cells #[.slice A' n' c', .int .i64 s, .int .i64 q, .slice B m d] t (0, 0)) := by simp [World.setCell, Array.getElem?_modify, hk]
  have h2 : ((w.setCell ⟨k, 0, none⟩ (.slice A' n' c')).setCell ⟨k, 1, none⟩ (.int .i64 s')).heap[k]? = some (.cells #[.slice A' n' c', .int .i64 s', .int .i64 q, .slice B m d] t (0, 0)) := by simp [World.setCell, Array.getElem?_modify, hk]
  have h3 : (((w.setCell ⟨k, 0, none⟩ (.slice A' n' c')).setCell ⟨k, 1, none⟩ (.int .i64 s')).setCell ⟨k, 2, none⟩ (.int .i64 q')).heap[k]? = some (.cells #[.slice A' n' c', .int .i64 s', .int .i64 q', .slice B m d] t (0, 0)) := by simp [World.setCell, Array.getElem?_modify, hk]
  exact (((h.other hk four_no hne 0 _).other h1 four_no hne 1 _).other h2 four_no hne 2 _).other h3 four_no hne 3 _
theorem put_other {w : World} {R X : Nat} {o : Obj} (hne : R ≠ X) (h : w.heap[X]? = some o) (u1 u2 u3 u4 : Value) : ((((w.setCell ⟨R, 0, none⟩ u1).setCell ⟨R, 1, none⟩ u2).setCell ⟨R, 2, none⟩ u3).setCell ⟨R, 3, none⟩ u4).heap[X]? = some o := by
  rw [Below.heap_setCell _ _ _ _ (fun e => hne (by simpa using e.symm)), Below.heap_setCell _ _ _ _ (fun e => hne (by simpa using e.symm)), Below.heap_setCell _ _ _ _ (fun e => hne (by simpa using e.symm)), Below.heap_setCell _ _ _ _ (fun e => hne (by simpa using e.symm))]
  exact h

/-- What the reference's entry answers. -/
def REnt (L g : Nat) (w w' : World) (p x : Bs) (e : Ending) : Prop :=
  (∃ v y r, e = .returned (.tuple #[v, .bool true]) ∧ pEnt p x = some (y, r) ∧ mayE y = true ∧ FrE w' w.heap.size v y ∧ Rdr1 L w' g r) ∨
  (∃ A n c s q B m d, e = .returned (.tuple #[.agg #[.slice A n c, .int .i64 s, .int .i64 q, .slice B m d], .bool false]) ∧ ∀ y r, pEnt p x = some (y, r) → mayE y = false)
theorem pno {p x : Bs} (h : pEnt p x = none) : ∀ y r, pEnt p x = some (y, r) → mayE y = false := fun _ _ h2 => by rw [h] at h2; cases h2

set_option maxRecDepth 100000 in
set_option maxHeartbeats 8000000 in
theorem rentry_any {L : Nat} (g : Nat) (B : Option Addr) (m d : Nat) (p x : Bs) (w : World) (hx : Rdr1 L w g x) (hp : Rd w B m p) (hmd : m ≤ d) (hm : m ≤ 65536) :
    Calls Try.prog 39 #[.pointer (some ⟨g, 0, none⟩), .slice B m d] w fun e w' => REnt L g w w' p x e ∧ Chg g w w' := by
  have hml := hp.1
  have hgw := hx.lt
  have hz := blk1 w (.cells #[.slice none 0 0, .int .i64 0, .int .i64 0, .slice none 0 0] 28)
  have HZ := Lib.hid hz
  have HP := Lib.hid hp
  have e0 : Ext w (w.alloc (.cells #[.slice none 0 0, .int .i64 0, .int .i64 0, .slice none 0 0] 28)) := (by with_reducible (repeat (first | exact Ext.rfl_ _ | assumption | refine Ext.drew ?_ | refine Ext.drewN ?_ _ | refine Ext.alloc ?_ _ | refine Ext.trans ?_ (by assumption))))
  have hqm : IntKind.u64.wrap (m : Int) = m := by rw [IntKind.wrap_u64]; omega
  have HX := Lib.hid hx
  clear hz hp hx
  go_enter Try.func39, Try.ntmps39
  go_wp2_with fail
  refine (r1num_any g x _ (HX.out.ext (by with_reducible (repeat (first | exact Ext.rfl_ _ | assumption | refine Ext.drew ?_ | refine Ext.drewN ?_ _ | refine Ext.alloc ?_ _ | refine Ext.trans ?_ (by assumption)))))).mono ?_
  rintro e w1 ⟨v1, k1, r1, rfl, ho1, hv1, -, hr1, hc1⟩
  have HC1 := Lib.hid ((Chg.of_ext e0).trans hc1)
  have HZ1 := Lib.hid (hc1.blk HZ.out (by omega))
  have HP1 := Lib.hid ((HX.out.ext e0).rd (HP.out.ext e0) hc1)
  have HO1 := Lib.hid ho1
  clear HZ HP HX ho1 hc1 e0
  by_cases q1 : k1 = 0
  · subst q1
    have HG1 : Hid (getN x = some (v1, r1)) := Lib.hid (by
      rcases HO1.out with ⟨_, h⟩ | ⟨h, _⟩
      · exact h
      · exact absurd rfl h)
    by_cases q1b : v1 ≤ m
    · have q1i : (v1 : Int) ≤ (m : Int) := by omega
      have q1n : ¬ (m : Int) < (v1 : Int) := by omega
      have d1 : decide ((m : Int) < (v1 : Int)) = false := decide_eq_false q1n
      have d1n : decide (m < v1) = false := decide_eq_false (by omega)
      have hnl : ¬ p.length < v1 := by omega
      go_wp2_with fail
      refine (rb1_any g 32 r1 _ hr1 (by decide)).mono ?_
      rintro e w2 ⟨A2, n2, c2, k2, y2, r2, rfl, ho2, hown2, hr2, hc2⟩
      have HC2 := Lib.hid (HC1.out.trans hc2)
      have HZ2 := Lib.hid (hc2.blk HZ1.out (by omega))
      have HP2 := Lib.hid (hr1.rd HP1.out hc2)
      have HO2 := Lib.hid ho2
      have hy2 : y2.length ≤ 32 := by
        rcases ho2 with ⟨_, h2⟩ | ⟨_, _, h2, _⟩
        · exact getB_le h2
        · rw [h2]; simp
      obtain ⟨B2, e2, hq2, hl2, hrd2, _⟩ := hown2.form
      cases hq2
      have HRD2 := Lib.hid hrd2
      have s12 := hc2.size
      have s01 := HC1.out.size
      clear HZ1 HP1 ho2 hc2 hr1 HC1 hown2 hrd2
      go_wp2_with fail
      refine (r1num_any g r2 _ hr2).mono ?_
      rintro e w3 ⟨v3, k3, r3, rfl, ho3, hv3, -, hr3, hc3⟩
      have HC3 := Lib.hid (HC2.out.trans hc3)
      have HZ3 := Lib.hid (hc3.blk HZ2.out (by omega))
      have HP3 := Lib.hid (hr2.rd HP2.out hc3)
      have HRD3 := Lib.hid (hr2.rd HRD2.out hc3)
      have HO3 := Lib.hid ho3
      have s23 := hc3.size
      clear HZ2 HP2 ho3 hc3 hr2 HC2 HRD2
      go_wp2_with fail
      refine (r1num_any g r3 _ hr3).mono ?_
      rintro e w4 ⟨v4, k4, r4, rfl, ho4, hv4, -, hr4, hc4⟩
      have HC4 := Lib.hid (HC3.out.trans hc4)
      have HZ4 := Lib.hid (hc4.blk HZ3.out (by omega))
      have HP4 := Lib.hid (hr3.rd HP3.out hc4)
      have HRD4 := Lib.hid (hr3.rd HRD3.out hc4)
      have HO4 := Lib.hid ho4
      have s34 := hc4.size
      clear HZ3 HP3 ho4 hc4 hr3 HC3 HRD3
      obtain ⟨z0, z1, z2, z3, y0, y1, y2f, y3⟩ := cells4 HZ4.out
      by_cases q2 : k2 = 0
      · subst q2
        have HG2 : Hid (getB 32 r1 = some (y2, r2)) := Lib.hid (by
          rcases HO2.out with ⟨_, h⟩ | ⟨h, _⟩
          · exact h
          · exact absurd rfl h)
        by_cases q3 : k3 = 0
        · subst q3
          have HG3 : Hid (getN r2 = some (v3, r3)) := Lib.hid (by
            rcases HO3.out with ⟨_, h⟩ | ⟨h, _⟩
            · exact h
            · exact absurd rfl h)
          by_cases q4 : k4 = 0
          · subst q4
            have HG4 : Hid (getN r3 = some (v4, r4)) := Lib.hid (by
              rcases HO4.out with ⟨_, h⟩ | ⟨h, _⟩
              · exact h
              · exact absurd rfl h)
            have hall := pEnt_all HG1.out hnl HG2.out HG3.out HG4.out
            have HALL := Lib.hid hall
            clear hall HO1 HO2 HO3 HO4
            by_cases q5 : (2147483647 : Int) < (v3 : Int)
            · have d5 : decide (2147483647 < v3) = true := decide_eq_true (by omega)
              have hbad : pEnt p x = none := by rw [HALL.out, if_pos (by omega)]
              have HBAD := Lib.hid (pno hbad)
              clear hbad
              go_wp2
              refine bodyPost_ret (v := .tuple #[.agg #[.slice none 0 0, .int .i64 0, .int .i64 0, .slice none 0 0], .bool false]) (by simp [results, Try.f39, go_sem, z0, z1, z2, z3]) rfl ?_
              exact ⟨.inr ⟨_, _, _, _, _, _, _, _, rfl, HBAD.out⟩, ((((HC4.out.setNew' (Nat.le_refl _) _).setNew' (Nat.le_refl _) _).setNew' (Nat.le_refl _) _).setNew' (Nat.le_refl _) _)⟩
            · have d5 : decide ((2147483647 : Int) < (v3 : Int)) = false := decide_eq_false q5
              have d5n : decide (2147483647 < v3) = false := decide_eq_false (by omega)
              by_cases q6 : (v4 : Int) < 1
              · have hv40 : v4 = 0 := by omega
                subst hv40
                have hbad : ∀ y r, pEnt p x = some (y, r) → mayE y = false := by
                  intro y r h
                  rw [HALL.out, if_neg (by omega), if_neg (by decide)] at h
                  cases h
                  exact decide_eq_false (fun h => by have := h.2.2.2.2.2; simp at this)
                have HBAD := Lib.hid hbad
                clear hbad q6
                go_wp2
                refine bodyPost_ret (v := .tuple #[.agg #[.slice none 0 0, .int .i64 0, .int .i64 0, .slice none 0 0], .bool false]) (by simp [results, Try.f39, go_sem, z0, z1, z2, z3]) rfl ?_
                exact ⟨.inr ⟨_, _, _, _, _, _, _, _, rfl, HBAD.out⟩, ((((HC4.out.setNew' (Nat.le_refl _) _).setNew' (Nat.le_refl _) _).setNew' (Nat.le_refl _) _).setNew' (Nat.le_refl _) _)⟩
              · have d6 : decide ((v4 : Int) < 1) = false := decide_eq_false q6
                have d6n : decide (v4 < 1) = false := decide_eq_false (by omega)
                have q60 : ¬ v4 = 0 := by omega
                by_cases q7 : (2 : Int) < (v4 : Int)
                · have d7 : decide (2 < v4) = true := decide_eq_true (by omega)
                  have hbad : pEnt p x = none := by rw [HALL.out, if_pos (by omega)]
                  have HBAD := Lib.hid (pno hbad)
                  clear hbad
                  go_wp2
                  refine bodyPost_ret (v := .tuple #[.agg #[.slice none 0 0, .int .i64 0, .int .i64 0, .slice none 0 0], .bool false]) (by simp [results, Try.f39, go_sem, z0, z1, z2, z3]) rfl ?_
                  exact ⟨.inr ⟨_, _, _, _, _, _, _, _, rfl, HBAD.out⟩, ((((HC4.out.setNew' (Nat.le_refl _) _).setNew' (Nat.le_refl _) _).setNew' (Nat.le_refl _) _).setNew' (Nat.le_refl _) _)⟩
                · have d7 : decide ((2 : Int) < (v4 : Int)) = false := decide_eq_false q7
                  have d7n : decide (2 < v4) = false := decide_eq_false (by omega)
                  have hq3 : IntKind.i64.wrap (v3 : Int) = v3 := by rw [IntKind.wrap_i64]; omega
                  have hq4 : IntKind.i64.wrap (v4 : Int) = v4 := by rw [IntKind.wrap_i64]; omega
                  have hvd : v1 ≤ d := by omega
                  have hvdi : (v1 : Int) ≤ (d : Int) := by omega
                  have hgw4 : g < w4.heap.size := hr4.lt
                  have hw04 : w.heap.size < w4.heap.size := (Array.getElem?_eq_some_iff.1 HZ4.out).1
                  have hpl : (p.take v1).length ≤ 65536 := by rw [List.length_take]; omega
                  have HR4 := Lib.hid hr4
                  by_cases hv41 : v4 = 1
                  · subst hv41
                    clear hr4 z0 z1 z2 z3 y0 y1 y2f y3
                    go_wp2_with (first | (at_builtin; refine wp_app rfl _ _ rfl w4.heap.size _ [] rfl (OwnB.nil _ _) B v1 d (p.take v1) rfl (HP4.out.pre q1b) (by simp only [List.length_nil]; unfold B47; omega) (Nat.le_refl _) ?_; intro v5 w5 o5 g5; rw [List.nil_append] at o5; have Z5 := Lib.hid ((Ext.rfl_ w4).growBy g5 (OwnB.nil w4 w4.heap.size) (Nat.le_refl _)); have O5 := Lib.hid o5; clear o5 g5) | (at_builtin; refine wp_app rfl _ _ rfl w4.heap.size _ (p.take v1) rfl O5.out A2 y2.length c2 y2 rfl (HRD4.out.ext Z5.out) (by unfold B47; omega) (Ext.size Z5.out) ?_; intro v6 w6 o6 g6; have Z6 := Lib.hid (Z5.out.growBy g6 O5.out (Nat.le_refl _)); obtain ⟨A6, n6, c6, hv6, l6, _, _⟩ := o6.formN; subst hv6; have O6 := Lib.hid o6; clear o6 g6 O5) | fail)
                    obtain ⟨ky, hky⟩ : ∃ ky, ky = p.take v1 ++ y2 := ⟨_, rfl⟩
                    rw [← hky] at O6
                    have hkl : ky.length ≤ 70000 := by rw [hky, List.length_append]; omega
                    have HKY := Lib.hid hky
                    clear hky
                    have hX6 := blk1 w6 (.cells #[.slice A6 n6 c6, .int .i64 (v3 : Int), .int .i64 (1 : Int), .slice none 0 0] 28)
                    have hE6 : Ext w4 (w6.alloc (.cells #[.slice A6 n6 c6, .int .i64 (v3 : Int), .int .i64 (1 : Int), .slice none 0 0] 28)) := Ext.alloc Z6.out _
                    have HX6 := Lib.hid hX6
                    have HE6 := Lib.hid hE6
                    have HZ6 := Lib.hid (hE6.blk HZ4.out)
                    have HC6 := Lib.hid (HC4.out.ext hE6)
                    have HR6 := Lib.hid (HR4.out.ext hE6)
                    have HK6 : Hid (OwnB (w6.alloc (.cells #[.slice A6 n6 c6, .int .i64 (v3 : Int), .int .i64 (1 : Int), .slice none 0 0] 28)) (w.heap.size + 1) (.slice A6 n6 c6) ky) := Lib.hid ((O6.out.ext (Ext.alloc (Ext.rfl_ w6) _)).mono (by omega))
                    have s46 : w4.heap.size ≤ w6.heap.size := Ext.size Z6.out
                    clear hX6 hE6 HP4 HRD4 HC4 HR4 HZ4 O6
                    obtain ⟨b0, b1, b2, b3, f0, f1, f2, f3⟩ := cells4 HX6.out
                    (try go_wp2_with fail)
                    refine (rb1_any g 65536 r4 _ HR6.out (by decide)).mono ?_
                    rintro e w7 ⟨A7, n7, c7, k7, y7, r7, rfl, ho7, hown7, hr7, hc7⟩
                    have HZ7 := Lib.hid (hc7.blk HZ6.out (by omega))
                    have HX7 := Lib.hid (hc7.blk HX6.out (by omega))
                    have HC7 := Lib.hid (HC6.out.trans hc7)
                    have HK7 := Lib.hid (HK6.out.chg1 HR6.out hc7)
                    have HV7 := Lib.hid (hown7.mono (base' := w.heap.size + 1) (by rw [World.size_alloc]; omega))
                    have s67 : w6.heap.size < w7.heap.size := (Array.getElem?_eq_some_iff.1 HX7.out).1
                    have HO7 := Lib.hid ho7
                    have hy7 : y7.length ≤ 65536 := by
                      rcases ho7 with ⟨_, h2⟩ | ⟨_, _, h2, _⟩
                      · exact getB_le h2
                      · rw [h2]; simp
                    have HR7 := Lib.hid hr7
                    clear ho7 hown7 hr7 hc7 HZ6 HX6 HC6 HK6 HR6 HE6 b0 b1 b2 b3 f0 f1 f2 f3
                    by_cases q8 : k7 = 0
                    · subst q8
                      have hok : pEnt p x = some (⟨ky, v3, 1, y7⟩, r7) := by
                        rw [HALL.out, if_neg (by omega), if_pos trivial]
                        rcases HO7.out with ⟨_, h⟩ | ⟨h, _⟩
                        · rw [h, HKY.out]
                        · exact absurd rfl h
                      have HOK := Lib.hid hok
                      clear hok
                      obtain ⟨b0, b1, b2, b3, f0, f1, f2, f3⟩ := cells4 HX7.out
                      have HXT := Lib.hid (set3 HX7.out (.slice A7 n7 c7))
                      have HZT := Lib.hid ((Below.heap_setCell _ ⟨w6.heap.size, 3, none⟩ (.slice A7 n7 c7) _ (by simp; omega)).trans HZ7.out)
                      have HRT := Lib.hid (HR7.out.other HX7.out four_no (by omega) 3 (.slice A7 n7 c7))
                      have HCT := Lib.hid (HC7.out.setNew' (p := ⟨w6.heap.size, 3, none⟩) (by simp; omega) (.slice A7 n7 c7))
                      have HKT := Lib.hid (HK7.out.chg HX7.out (by decide) ((Chg.rfl_ _ _).setCell 3 (.slice A7 n7 c7)))
                      have HVT := Lib.hid (HV7.out.chg HX7.out (by decide) ((Chg.rfl_ _ _).setCell 3 (.slice A7 n7 c7)))
                      have HST : Hid (w6.heap.size < (w7.setCell ⟨w6.heap.size, 3, none⟩ (.slice A7 n7 c7)).heap.size) := Lib.hid (by simpa [World.setCell] using s67)
                      have hre : FrE (w7.setCell ⟨w6.heap.size, 3, none⟩ (.slice A7 n7 c7)) (w.heap.size + 1) (.agg #[.slice A6 n6 c6, .int .i64 (v3 : Int), .int .i64 (1 : Int), .slice A7 n7 c7]) ⟨ky, v3, 1, y7⟩ := FrE.mk_ HKT.out HVT.out rfl rfl (by dsimp only; unfold B47; omega) (by dsimp only; unfold B47; omega)
                      have HRE := Lib.hid hre
                      clear hre
                      obtain ⟨b0, b1, b2, b3, f0, f1, f2, f3⟩ := cells4 HXT.out
                      obtain ⟨z0, z1, z2, z3, y0, y1, y2f, y3⟩ := cells4 HZT.out
                      have hRX : w.heap.size ≠ w6.heap.size := by omega
                      go_wp2
                      refine wp_region_held_drew (S := (fun W => W.cell? ⟨w6.heap.size, 0, none⟩ = some (.slice A6 n6 c6) ∧ W.cell? ⟨w6.heap.size, 1, none⟩ = some (.int .i64 (v3 : Int)) ∧ W.cell? ⟨w6.heap.size, 2, none⟩ = some (.int .i64 (1 : Int)) ∧ W.cell? ⟨w6.heap.size, 3, none⟩ = some (.slice A7 n7 c7) ∧ W.frozen? ⟨w6.heap.size, 0, none⟩ = false ∧ W.frozen? ⟨w6.heap.size, 1, none⟩ = false ∧ W.frozen? ⟨w6.heap.size, 2, none⟩ = false ∧ W.frozen? ⟨w6.heap.size, 3, none⟩ = false)) (by kernel_rfl) (by (try dsimp only); (first | exact cells4 (put_other hRX (hw8.blk HXT.out) _ _ _ _) | exact box4 HXT.out (by with_reducible (repeat (first | exact Ext.rfl_ _ | assumption | refine Ext.drew ?_ | refine Ext.drewN ?_ _ | refine Ext.alloc ?_ _ | refine Ext.trans ?_ (by assumption)))))) (fun hHeld => ?_)
                      refine wpAnyH_take (i := 0) (oi := ({ dst := some 94, op := Go.Op.load 28 (Go.Operand.tmp 14), type := 28, pos := "ref.go:87", after := #[], guard := none } : Go.Oper)) (v := ?v1) rfl (by kernel_rfl) (by kernel_rfl) (by kernel_rfl) (fun _ _ _ h => h) (Or.inl ⟨by rfl, ?hy1⟩) (by assumption) ?rest1
                      case hy1 => (intro w hSw; (try dsimp only at hSw); go_simp; (try with_reducible rfl))
                      (try simp only [Act.put, List.getElem_toArray, List.getElem_cons_zero, List.getElem_cons_succ, List.setIfInBounds_toArray, List.set_cons_zero, List.set_cons_succ])
                      refine wpAnyH_take (i := 1) (oi := ({ dst := some 95, op := Go.Op.load 28 (Go.Operand.tmp 14), type := 28, pos := "ref.go:87", after := #[], guard := none } : Go.Oper)) (v := ?v2) rfl (by kernel_rfl) (by kernel_rfl) (by kernel_rfl) (fun _ _ _ h => h) (Or.inl ⟨by rfl, ?hy2⟩) (by assumption) ?rest2
                      case hy2 => (intro w hSw; (try dsimp only at hSw); go_simp; (try with_reducible rfl))
                      (try simp only [Act.put, List.getElem_toArray, List.getElem_cons_zero, List.getElem_cons_succ, List.setIfInBounds_toArray, List.set_cons_zero, List.set_cons_succ])
                      refine wpAnyH_ready (rs := [2]) (by kernel_rfl) (by simp) ?_
                      refine AllReadyH.cons (o := ({ dst := some 96, op := Go.Op.call { callee := Go.Callee.value (Go.Operand.func 65), args := #[Go.Operand.tmp 95], argTypes := #[28] }, type := 4, pos := "ref.go:87", after := #[{ on := 1, ground := Go.Ground.data }], guard := none } : Go.Oper)) rfl (fun K hK => ?_) AllReadyH.nil
                      go_simp
                      refine (rmay_any _ ⟨ky, v3, 1, y7⟩ _ (HRE.out.rd.ext (by with_reducible (repeat (first | exact Ext.rfl_ _ | assumption | refine Ext.drew ?_ | refine Ext.drewN ?_ _ | refine Ext.alloc ?_ _ | refine Ext.trans ?_ (by assumption)))))).mono ?_; rintro e w8 ⟨rfl, hw8⟩; obtain ⟨z0, z1, z2, z3, y0, y1, y2f, y3⟩ := cells4 (hw8.blk HZT.out)
                      (try (go_wp2_with fail))
                      refine hK.out _ _ (by (try dsimp only); (first | exact cells4 (put_other hRX (hw8.blk HXT.out) _ _ _ _) | exact box4 HXT.out (by with_reducible (repeat (first | exact Ext.rfl_ _ | assumption | refine Ext.drew ?_ | refine Ext.drewN ?_ _ | refine Ext.alloc ?_ _ | refine Ext.trans ?_ (by assumption)))))) (fun hHeld => ?_)
                      clear hK K
                      (try simp only [Act.put, List.getElem_toArray, List.getElem_cons_zero, List.getElem_cons_succ, List.setIfInBounds_toArray, List.set_cons_zero, List.set_cons_succ])
                      refine wpAnyH_ready (rs := [3]) (by kernel_rfl) (by simp) ?_
                      refine AllReadyH.cons (o := ({ dst := none, op := Go.Op.store 28 (Go.Operand.tmp 4) (Go.Operand.tmp 94), type := 0, pos := "ref.go:87", after := #[{ on := 0, ground := Go.Ground.data }, { on := 2, ground := Go.Ground.chain }, { on := 0, ground := Go.Ground.phase }, { on := 1, ground := Go.Ground.textOnly Go.Departure.lateStores }, { on := 2, ground := Go.Ground.textOnly Go.Departure.lateStoresUnsure }], guard := none } : Go.Oper)) rfl (fun K hK => ?_) AllReadyH.nil
                      go_simp
                      refine hK.out _ _ (by (try dsimp only); (first | exact cells4 (put_other hRX (hw8.blk HXT.out) _ _ _ _) | exact box4 HXT.out (by with_reducible (repeat (first | exact Ext.rfl_ _ | assumption | refine Ext.drew ?_ | refine Ext.drewN ?_ _ | refine Ext.alloc ?_ _ | refine Ext.trans ?_ (by assumption)))))) (fun hHeld => ?_)
                      clear hK K
                      (try simp only [Act.put, List.getElem_toArray, List.getElem_cons_zero, List.getElem_cons_succ, List.setIfInBounds_toArray, List.set_cons_zero, List.set_cons_succ])
                      refine wpAnyH_take (i := 4) (oi := ({ dst := some 5, op := Go.Op.assign (Go.Operand.tmp 96), type := 4, pos := "ref.go:87", after := #[{ on := 2, ground := Go.Ground.data }, { on := 3, ground := Go.Ground.chain }, { on := 0, ground := Go.Ground.phase }, { on := 1, ground := Go.Ground.phase }, { on := 2, ground := Go.Ground.phase }, { on := 3, ground := Go.Ground.phase }], guard := none } : Go.Oper)) (v := ?v3) rfl (by kernel_rfl) (by kernel_rfl) (by kernel_rfl) (fun _ _ _ h => h) (Or.inl ⟨by rfl, ?hy3⟩) (by assumption) ?rest3
                      case hy3 => (intro w hSw; (try dsimp only at hSw); go_simp; (try with_reducible rfl))
                      (try simp only [Act.put, List.getElem_toArray, List.getElem_cons_zero, List.getElem_cons_succ, List.setIfInBounds_toArray, List.set_cons_zero, List.set_cons_succ])
                      refine wpAnyH_done (by kernel_rfl) ?_ _
                      go_wp2
                      replace hw8 : Ext (w7.setCell ⟨w6.heap.size, 3, none⟩ (.slice A7 n7 c7)) w8 := (Ext.drew (Ext.rfl_ _)).trans hw8
                      have HZ8 := Lib.hid (hw8.blk HZT.out)
                      refine bodyPost_ret (v := .tuple #[.agg #[.slice A6 n6 c6, .int .i64 (v3 : Int), .int .i64 (1 : Int), .slice A7 n7 c7], .bool (mayE ⟨ky, v3, 1, y7⟩)]) (by simp [results, Try.f39, go_sem, z0, z1, z2, z3]) rfl ?_
                      refine ⟨?_, ?_⟩
                      · cases hmy : mayE ⟨ky, v3, 1, y7⟩ with
                        | true =>
                          refine .inl ⟨_, ⟨ky, v3, 1, y7⟩, r7, rfl, HOK.out, hmy, ?_, ?_⟩
                          · refine FrE.mk_ ?_ ?_ rfl rfl (by dsimp only; unfold B47; omega) (by dsimp only; unfold B47; omega)
                            · exact ((((((HKT.out.ext hw8).setLow (by simp) _).setLow (by simp) _).setLow (by simp) _).setLow (by simp) _).mono (Nat.le_succ _))
                            · exact ((((((HVT.out.ext hw8).setLow (by simp) _).setLow (by simp) _).setLow (by simp) _).setLow (by simp) _).mono (Nat.le_succ _))
                          · exact ((HRT.out.ext hw8).setE HZ8.out (by omega))
                        | false => exact .inr ⟨_, _, _, _, _, _, _, _, rfl, fun y r h => by rw [HOK.out] at h; cases h; exact hmy⟩
                      · exact (((((HCT.out.ext hw8).setNew' (Nat.le_refl _) _).setNew' (Nat.le_refl _) _).setNew' (Nat.le_refl _) _).setNew' (Nat.le_refl _) _)
                    · have q8b : (k7 == 0) = false := by rw [beq_eq_false_iff_ne]; exact q8
                      have q8n : (k7 != 0) = true := by simpa using q8
                      have hbad : pEnt p x = none := by
                        rw [HALL.out, if_neg (by omega), if_pos trivial]
                        rcases HO7.out with ⟨h, _⟩ | ⟨_, h, _⟩
                        · exact absurd h q8
                        · rw [h]
                      have HBAD := Lib.hid (pno hbad)
                      clear hbad
                      obtain ⟨z0, z1, z2, z3, y0, y1, y2f, y3⟩ := cells4 HZ7.out
                      go_wp2
                      refine bodyPost_ret (v := .tuple #[.agg #[.slice none 0 0, .int .i64 0, .int .i64 0, .slice none 0 0], .bool false]) (by simp [results, Try.f39, go_sem, z0, z1, z2, z3]) rfl ?_
                      exact ⟨.inr ⟨_, _, _, _, _, _, _, _, rfl, HBAD.out⟩, ((((HC7.out.setNew' (Nat.le_refl _) _).setNew' (Nat.le_refl _) _).setNew' (Nat.le_refl _) _).setNew' (Nat.le_refl _) _)⟩
                  · have hv4b : ((v4 : Int) == 1) = false := by rw [beq_eq_false_iff_ne]; omega
                    clear hr4 z0 z1 z2 z3 y0 y1 y2f y3
                    go_wp2_with (first | (at_builtin; refine wp_app rfl _ _ rfl w4.heap.size _ [] rfl (OwnB.nil _ _) B v1 d (p.take v1) rfl (HP4.out.pre q1b) (by simp only [List.length_nil]; unfold B47; omega) (Nat.le_refl _) ?_; intro v5 w5 o5 g5; rw [List.nil_append] at o5; have Z5 := Lib.hid ((Ext.rfl_ w4).growBy g5 (OwnB.nil w4 w4.heap.size) (Nat.le_refl _)); have O5 := Lib.hid o5; clear o5 g5) | (at_builtin; refine wp_app rfl _ _ rfl w4.heap.size _ (p.take v1) rfl O5.out A2 y2.length c2 y2 rfl (HRD4.out.ext Z5.out) (by unfold B47; omega) (Ext.size Z5.out) ?_; intro v6 w6 o6 g6; have Z6 := Lib.hid (Z5.out.growBy g6 O5.out (Nat.le_refl _)); obtain ⟨A6, n6, c6, hv6, l6, _, _⟩ := o6.formN; subst hv6; have O6 := Lib.hid o6; clear o6 g6 O5) | fail)
                    obtain ⟨ky, hky⟩ : ∃ ky, ky = p.take v1 ++ y2 := ⟨_, rfl⟩
                    rw [← hky] at O6
                    have hkl : ky.length ≤ 70000 := by rw [hky, List.length_append]; omega
                    have HKY := Lib.hid hky
                    clear hky
                    have hX6 := blk1 w6 (.cells #[.slice A6 n6 c6, .int .i64 (v3 : Int), .int .i64 (v4 : Int), .slice none 0 0] 28)
                    have hE6 : Ext w4 (w6.alloc (.cells #[.slice A6 n6 c6, .int .i64 (v3 : Int), .int .i64 (v4 : Int), .slice none 0 0] 28)) := Ext.alloc Z6.out _
                    have HX6 := Lib.hid hX6
                    have HE6 := Lib.hid hE6
                    have HZ6 := Lib.hid (hE6.blk HZ4.out)
                    have HC6 := Lib.hid (HC4.out.ext hE6)
                    have HR6 := Lib.hid (HR4.out.ext hE6)
                    have HK6 : Hid (OwnB (w6.alloc (.cells #[.slice A6 n6 c6, .int .i64 (v3 : Int), .int .i64 (v4 : Int), .slice none 0 0] 28)) (w.heap.size + 1) (.slice A6 n6 c6) ky) := Lib.hid ((O6.out.ext (Ext.alloc (Ext.rfl_ w6) _)).mono (by omega))
                    have s46 : w4.heap.size ≤ w6.heap.size := Ext.size Z6.out
                    clear hX6 hE6 HP4 HRD4 HC4 HR4 HZ4 O6
                    obtain ⟨b0, b1, b2, b3, f0, f1, f2, f3⟩ := cells4 HX6.out
                    have hok : pEnt p x = some (⟨ky, v3, v4, []⟩, r4) := by
                      rw [HALL.out, if_neg (by omega), if_neg hv41, HKY.out]
                    have HOK := Lib.hid hok
                    have HXT := HX6
                    have HZT := HZ6
                    have HRT := HR6
                    have HCT := HC6
                    have HKT := HK6
                    have HVT : Hid (OwnB (w6.alloc (.cells #[.slice A6 n6 c6, .int .i64 (v3 : Int), .int .i64 (v4 : Int), .slice none 0 0] 28)) (w.heap.size + 1) (.slice none 0 0) []) := Lib.hid (OwnB.nil _ _)
                    have HST : Hid (w6.heap.size < (w6.alloc (.cells #[.slice A6 n6 c6, .int .i64 (v3 : Int), .int .i64 (v4 : Int), .slice none 0 0] 28)).heap.size) := Lib.hid (by rw [World.size_alloc]; omega)
                    clear hok HX6 HZ6 HR6 HC6 HK6
                    have hre : FrE (w6.alloc (.cells #[.slice A6 n6 c6, .int .i64 (v3 : Int), .int .i64 (v4 : Int), .slice none 0 0] 28)) (w.heap.size + 1) (.agg #[.slice A6 n6 c6, .int .i64 (v3 : Int), .int .i64 (v4 : Int), .slice none 0 0]) ⟨ky, v3, v4, []⟩ := FrE.mk_ HKT.out HVT.out rfl rfl (by dsimp only; unfold B47; omega) (by dsimp only; unfold B47; simp)
                    have HRE := Lib.hid hre
                    clear hre
                    obtain ⟨b0, b1, b2, b3, f0, f1, f2, f3⟩ := cells4 HXT.out
                    obtain ⟨z0, z1, z2, z3, y0, y1, y2f, y3⟩ := cells4 HZT.out
                    have hRX : w.heap.size ≠ w6.heap.size := by omega
                    go_wp2
                    refine wp_region_held_drew (S := (fun W => W.cell? ⟨w6.heap.size, 0, none⟩ = some (.slice A6 n6 c6) ∧ W.cell? ⟨w6.heap.size, 1, none⟩ = some (.int .i64 (v3 : Int)) ∧ W.cell? ⟨w6.heap.size, 2, none⟩ = some (.int .i64 (v4 : Int)) ∧ W.cell? ⟨w6.heap.size, 3, none⟩ = some (.slice none 0 0) ∧ W.frozen? ⟨w6.heap.size, 0, none⟩ = false ∧ W.frozen? ⟨w6.heap.size, 1, none⟩ = false ∧ W.frozen? ⟨w6.heap.size, 2, none⟩ = false ∧ W.frozen? ⟨w6.heap.size, 3, none⟩ = false)) (by kernel_rfl) (by (try dsimp only); (first | exact cells4 (put_other hRX (hw8.blk HXT.out) _ _ _ _) | exact box4 HXT.out (by with_reducible (repeat (first | exact Ext.rfl_ _ | assumption | refine Ext.drew ?_ | refine Ext.drewN ?_ _ | refine Ext.alloc ?_ _ | refine Ext.trans ?_ (by assumption)))))) (fun hHeld => ?_)
                    refine wpAnyH_take (i := 0) (oi := ({ dst := some 94, op := Go.Op.load 28 (Go.Operand.tmp 14), type := 28, pos := "ref.go:87", after := #[], guard := none } : Go.Oper)) (v := ?v4) rfl (by kernel_rfl) (by kernel_rfl) (by kernel_rfl) (fun _ _ _ h => h) (Or.inl ⟨by rfl, ?hy4⟩) (by assumption) ?rest4
                    case hy4 => (intro w hSw; (try dsimp only at hSw); go_simp; (try with_reducible rfl))
                    (try simp only [Act.put, List.getElem_toArray, List.getElem_cons_zero, List.getElem_cons_succ, List.setIfInBounds_toArray, List.set_cons_zero, List.set_cons_succ])
                    refine wpAnyH_take (i := 1) (oi := ({ dst := some 95, op := Go.Op.load 28 (Go.Operand.tmp 14), type := 28, pos := "ref.go:87", after := #[], guard := none } : Go.Oper)) (v := ?v5) rfl (by kernel_rfl) (by kernel_rfl) (by kernel_rfl) (fun _ _ _ h => h) (Or.inl ⟨by rfl, ?hy5⟩) (by assumption) ?rest5
                    case hy5 => (intro w hSw; (try dsimp only at hSw); go_simp; (try with_reducible rfl))
                    (try simp only [Act.put, List.getElem_toArray, List.getElem_cons_zero, List.getElem_cons_succ, List.setIfInBounds_toArray, List.set_cons_zero, List.set_cons_succ])
                    refine wpAnyH_ready (rs := [2]) (by kernel_rfl) (by simp) ?_
                    refine AllReadyH.cons (o := ({ dst := some 96, op := Go.Op.call { callee := Go.Callee.value (Go.Operand.func 65), args := #[Go.Operand.tmp 95], argTypes := #[28] }, type := 4, pos := "ref.go:87", after := #[{ on := 1, ground := Go.Ground.data }], guard := none } : Go.Oper)) rfl (fun K hK => ?_) AllReadyH.nil
                    go_simp
                    refine (rmay_any _ ⟨ky, v3, v4, []⟩ _ (HRE.out.rd.ext (by with_reducible (repeat (first | exact Ext.rfl_ _ | assumption | refine Ext.drew ?_ | refine Ext.drewN ?_ _ | refine Ext.alloc ?_ _ | refine Ext.trans ?_ (by assumption)))))).mono ?_; rintro e w8 ⟨rfl, hw8⟩; obtain ⟨z0, z1, z2, z3, y0, y1, y2f, y3⟩ := cells4 (hw8.blk HZT.out)
                    (try (go_wp2_with fail))
                    refine hK.out _ _ (by (try dsimp only); (first | exact cells4 (put_other hRX (hw8.blk HXT.out) _ _ _ _) | exact box4 HXT.out (by with_reducible (repeat (first | exact Ext.rfl_ _ | assumption | refine Ext.drew ?_ | refine Ext.drewN ?_ _ | refine Ext.alloc ?_ _ | refine Ext.trans ?_ (by assumption)))))) (fun hHeld => ?_)
                    clear hK K
                    (try simp only [Act.put, List.getElem_toArray, List.getElem_cons_zero, List.getElem_cons_succ, List.setIfInBounds_toArray, List.set_cons_zero, List.set_cons_succ])
                    refine wpAnyH_ready (rs := [3]) (by kernel_rfl) (by simp) ?_
                    refine AllReadyH.cons (o := ({ dst := none, op := Go.Op.store 28 (Go.Operand.tmp 4) (Go.Operand.tmp 94), type := 0, pos := "ref.go:87", after := #[{ on := 0, ground := Go.Ground.data }, { on := 2, ground := Go.Ground.chain }, { on := 0, ground := Go.Ground.phase }, { on := 1, ground := Go.Ground.textOnly Go.Departure.lateStores }, { on := 2, ground := Go.Ground.textOnly Go.Departure.lateStoresUnsure }], guard := none } : Go.Oper)) rfl (fun K hK => ?_) AllReadyH.nil
                    go_simp
                    refine hK.out _ _ (by (try dsimp only); (first | exact cells4 (put_other hRX (hw8.blk HXT.out) _ _ _ _) | exact box4 HXT.out (by with_reducible (repeat (first | exact Ext.rfl_ _ | assumption | refine Ext.drew ?_ | refine Ext.drewN ?_ _ | refine Ext.alloc ?_ _ | refine Ext.trans ?_ (by assumption)))))) (fun hHeld => ?_)
                    clear hK K
                    (try simp only [Act.put, List.getElem_toArray, List.getElem_cons_zero, List.getElem_cons_succ, List.setIfInBounds_toArray, List.set_cons_zero, List.set_cons_succ])
                    refine wpAnyH_take (i := 4) (oi := ({ dst := some 5, op := Go.Op.assign (Go.Operand.tmp 96), type := 4, pos := "ref.go:87", after := #[{ on := 2, ground := Go.Ground.data }, { on := 3, ground := Go.Ground.chain }, { on := 0, ground := Go.Ground.phase }, { on := 1, ground := Go.Ground.phase }, { on := 2, ground := Go.Ground.phase }, { on := 3, ground := Go.Ground.phase }], guard := none } : Go.Oper)) (v := ?v6) rfl (by kernel_rfl) (by kernel_rfl) (by kernel_rfl) (fun _ _ _ h => h) (Or.inl ⟨by rfl, ?hy6⟩) (by assumption) ?rest6
                    case hy6 => (intro w hSw; (try dsimp only at hSw); go_simp; (try with_reducible rfl))
                    (try simp only [Act.put, List.getElem_toArray, List.getElem_cons_zero, List.getElem_cons_succ, List.setIfInBounds_toArray, List.set_cons_zero, List.set_cons_succ])
                    refine wpAnyH_done (by kernel_rfl) ?_ _
                    go_wp2
                    replace hw8 : Ext (w6.alloc (.cells #[.slice A6 n6 c6, .int .i64 (v3 : Int), .int .i64 (v4 : Int), .slice none 0 0] 28)) w8 := (Ext.drew (Ext.rfl_ _)).trans hw8
                    have HZ8 := Lib.hid (hw8.blk HZT.out)
                    refine bodyPost_ret (v := .tuple #[.agg #[.slice A6 n6 c6, .int .i64 (v3 : Int), .int .i64 (v4 : Int), .slice none 0 0], .bool (mayE ⟨ky, v3, v4, []⟩)]) (by simp [results, Try.f39, go_sem, z0, z1, z2, z3]) rfl ?_
                    refine ⟨?_, ?_⟩
                    · cases hmy : mayE ⟨ky, v3, v4, []⟩ with
                      | true =>
                        refine .inl ⟨_, ⟨ky, v3, v4, []⟩, r4, rfl, HOK.out, hmy, ?_, ?_⟩
                        · refine FrE.mk_ ?_ ?_ rfl rfl (by dsimp only; unfold B47; omega) (by dsimp only; unfold B47; simp)
                          · exact ((((((HKT.out.ext hw8).setLow (by simp) _).setLow (by simp) _).setLow (by simp) _).setLow (by simp) _).mono (Nat.le_succ _))
                          · exact ((((((HVT.out.ext hw8).setLow (by simp) _).setLow (by simp) _).setLow (by simp) _).setLow (by simp) _).mono (Nat.le_succ _))
                        · exact ((HRT.out.ext hw8).setE HZ8.out (by omega))
                      | false => exact .inr ⟨_, _, _, _, _, _, _, _, rfl, fun y r h => by rw [HOK.out] at h; cases h; exact hmy⟩
                    · exact (((((HCT.out.ext hw8).setNew' (Nat.le_refl _) _).setNew' (Nat.le_refl _) _).setNew' (Nat.le_refl _) _).setNew' (Nat.le_refl _) _)
          · have q4b : (k4 == 0) = false := by rw [beq_eq_false_iff_ne]; exact q4
            have q4n : (k4 != 0) = true := by simpa using q4
            have hbad : pEnt p x = none := by
              rcases HO4.out with ⟨h, _⟩ | ⟨_, h, _⟩
              · exact absurd h q4
              · exact pEnt_k HG1.out HG2.out HG3.out h
            have HBAD := Lib.hid (pno hbad)
            clear hbad
            go_wp2
            refine bodyPost_ret (v := .tuple #[.agg #[.slice none 0 0, .int .i64 0, .int .i64 0, .slice none 0 0], .bool false]) (by simp [results, Try.f39, go_sem, z0, z1, z2, z3]) rfl ?_
            exact ⟨.inr ⟨_, _, _, _, _, _, _, _, rfl, HBAD.out⟩, ((((HC4.out.setNew' (Nat.le_refl _) _).setNew' (Nat.le_refl _) _).setNew' (Nat.le_refl _) _).setNew' (Nat.le_refl _) _)⟩
        · have q3b : (k3 == 0) = false := by rw [beq_eq_false_iff_ne]; exact q3
          have q3n : (k3 != 0) = true := by simpa using q3
          have hbad : pEnt p x = none := by
            rcases HO3.out with ⟨h, _⟩ | ⟨_, h, _⟩
            · exact absurd h q3
            · exact pEnt_q HG1.out HG2.out h
          have HBAD := Lib.hid (pno hbad)
          clear hbad
          go_wp2
          refine bodyPost_ret (v := .tuple #[.agg #[.slice none 0 0, .int .i64 0, .int .i64 0, .slice none 0 0], .bool false]) (by simp [results, Try.f39, go_sem, z0, z1, z2, z3]) rfl ?_
          exact ⟨.inr ⟨_, _, _, _, _, _, _, _, rfl, HBAD.out⟩, ((((HC4.out.setNew' (Nat.le_refl _) _).setNew' (Nat.le_refl _) _).setNew' (Nat.le_refl _) _).setNew' (Nat.le_refl _) _)⟩
      · have q2b : (k2 == 0) = false := by rw [beq_eq_false_iff_ne]; exact q2
        have q2n : (k2 != 0) = true := by simpa using q2
        have hbad : pEnt p x = none := by
          rcases HO2.out with ⟨h, _⟩ | ⟨_, h, _⟩
          · exact absurd h q2
          · exact pEnt_b HG1.out h
        have HBAD := Lib.hid (pno hbad)
        clear hbad
        go_wp2
        refine bodyPost_ret (v := .tuple #[.agg #[.slice none 0 0, .int .i64 0, .int .i64 0, .slice none 0 0], .bool false]) (by simp [results, Try.f39, go_sem, z0, z1, z2, z3]) rfl ?_
        exact ⟨.inr ⟨_, _, _, _, _, _, _, _, rfl, HBAD.out⟩, ((((HC4.out.setNew' (Nat.le_refl _) _).setNew' (Nat.le_refl _) _).setNew' (Nat.le_refl _) _).setNew' (Nat.le_refl _) _)⟩
    · have q1i : (m : Int) < (v1 : Int) := by omega
      have d1 : decide (m < v1) = true := decide_eq_true (by omega)
      have hbad : pEnt p x = none := pEnt_s HG1.out (by omega)
      have HBAD := Lib.hid (pno hbad)
      clear hbad
      obtain ⟨z0, z1, z2, z3, y0, y1, y2f, y3⟩ := cells4 HZ1.out
      go_wp2
      refine bodyPost_ret (v := .tuple #[.agg #[.slice none 0 0, .int .i64 0, .int .i64 0, .slice none 0 0], .bool false]) (by simp [results, Try.f39, go_sem, z0, z1, z2, z3]) rfl ?_
      exact ⟨.inr ⟨_, _, _, _, _, _, _, _, rfl, HBAD.out⟩, ((((HC1.out.setNew' (Nat.le_refl _) _).setNew' (Nat.le_refl _) _).setNew' (Nat.le_refl _) _).setNew' (Nat.le_refl _) _)⟩
  · have q1b : (k1 == 0) = false := by rw [beq_eq_false_iff_ne]; exact q1
    have q1n : (k1 != 0) = true := by simpa using q1
    have hbad : pEnt p x = none := by
      rcases HO1.out with ⟨h, _⟩ | ⟨_, h, _⟩
      · exact absurd h q1
      · exact pEnt_n h
    have HBAD := Lib.hid (pno hbad)
    clear hbad
    obtain ⟨z0, z1, z2, z3, y0, y1, y2f, y3⟩ := cells4 HZ1.out
    go_wp2
    refine bodyPost_ret (v := .tuple #[.agg #[.slice none 0 0, .int .i64 0, .int .i64 0, .slice none 0 0], .bool false]) (by simp [results, Try.f39, go_sem, z0, z1, z2, z3]) rfl ?_
    exact ⟨.inr ⟨_, _, _, _, _, _, _, _, rfl, HBAD.out⟩, ((((HC1.out.setNew' (Nat.le_refl _) _).setNew' (Nat.le_refl _) _).setNew' (Nat.le_refl _) _).setNew' (Nat.le_refl _) _)⟩
end Go.Proofs.Ythfhococglbpoaa
