/- Contract of the reference's Read (layer 5). Conditions: the slice reads. -/
import Derived.Test.YtpohmoakilioiaaRefS
import Derived.Test.YtpohmoakilioiaaKeyR
namespace Go.Proofs.Ytpohmoakilioiaa
set_option linter.unusedSimpArgs false
set_option linter.unusedVariables false
open Go.RowKit

theorem OwnB.chg1 {w w' : World} {base g : Nat} {v : Value} {x y : Bs} (h : OwnB w base v x) {L : Nat} (hr : Rdr1 L w g y) (hc : Chg g w w') : OwnB w' base v x := by
  obtain ⟨A, n, c, hg, _⟩ := hr
  exact h.chg hg (by decide) hc
theorem Rdr1.other {L : Nat} {w : World} {g k : Nat} {x : Bs} {cs : Array Value} {t : TypeId} {fr : Nat × Nat} (h : Rdr1 L w g x) (hg : w.heap[k]? = some (.cells cs t fr)) (hcs : ∀ (i : Nat) (z : Int), cs[i]? ≠ some (Value.int .u8 z)) (hne : g ≠ k) (o : Nat) (u : Value) : Rdr1 L (w.setCell ⟨k, o, none⟩ u) g x := by
  obtain ⟨A, n, c, h1, h2, h3⟩ := h
  exact ⟨A, n, c, (Below.heap_setCell _ _ _ _ hne).trans h1, ⟨h2.1.setBlk hg hcs o u, h2.2⟩, h3⟩

set_option maxRecDepth 100000 in
set_option maxHeartbeats 8000000 in
theorem rread_any (A : Option Addr) (n c : Nat) (x : Bs) (w : World) (hx : Rd w A n x) (hnc : n ≤ c) (hn : n ≤ B40) :
    Calls Try.prog 22 #[.slice A n c] w fun e w' => ∃ v', e = .returned (.tuple #[v', .int .i64 (rdN x)]) ∧ FrE w' w.heap.size v' (rdE x) ∧ Ext w w' := by
  have HX := Lib.hid hx
  have HN := Lib.hid hn
  obtain ⟨b1, b2⟩ := two_new w (.cells #[.slice none 0 0, .int .i64 0, .int .i64 0, .slice none 0 0] 25) (.cells #[.slice A n c] 78)
  have HZ := Lib.hid b1
  obtain ⟨W0, hW0⟩ : ∃ W, W = (w.alloc (.cells #[.slice none 0 0, .int .i64 0, .int .i64 0, .slice none 0 0] 25)).alloc (.cells #[.slice A n c] 78) := ⟨_, rfl⟩
  have hr0 : Rdr1 w.heap.size W0 (w.heap.size + 1) x := ⟨A, n, c, by rw [hW0]; exact b2, ⟨by rw [hW0]; exact hx.ext (by with_reducible (repeat (first | exact Ext.rfl_ _ | assumption | refine Ext.drew ?_ | refine Ext.drewN ?_ _ | refine Ext.alloc ?_ _ | refine Ext.trans ?_ (by assumption)))), Lo.of hx (Nat.le_refl _)⟩, hnc, hn⟩
  have e0 : Ext w W0 := by rw [hW0]; exact (by with_reducible (repeat (first | exact Ext.rfl_ _ | assumption | refine Ext.drew ?_ | refine Ext.drewN ?_ _ | refine Ext.alloc ?_ _ | refine Ext.trans ?_ (by assumption))))
  have hs0 : W0.heap.size = w.heap.size + 2 := by rw [hW0]; simp
  have HW0 := Lib.hid hW0
  rw [← hW0] at HZ
  clear hx hn b1 b2 hW0
  go_enter Try.func22, Try.ntmps22
  go_wp2_with fail
  rw [← HW0.out]
  refine (rb1_any (w.heap.size + 1) 32 x _ hr0 (by decide)).mono ?_
  rintro e w2 ⟨A2, n2, c2, k2, y2, r2, rfl, ho2, hown2, hr2, hc2⟩
  have e2 : Ext w w2 := e0.chg hc2 (by omega)
  have HZ2 := Lib.hid (hc2.blk HZ.out (by omega))
  clear HZ
  go_wp2_with fail
  refine (r1num_any (w.heap.size + 1) r2 _ hr2).mono ?_
  rintro e w3 ⟨v3, k3, r3, rfl, ho3, hv3, -, hr3, hc3⟩
  have e3 : Ext w w3 := e2.chg hc3 (by omega)
  have HZ3 := Lib.hid (hc3.blk HZ2.out (by omega))
  clear HZ2
  go_wp2_with fail
  refine (r1num_any (w.heap.size + 1) r3 _ hr3).mono ?_
  rintro e w4 ⟨v4, k4, r4, rfl, ho4, hv4, -, hr4, hc4⟩
  have e4 : Ext w w4 := e3.chg hc4 (by omega)
  have HZ4 := Lib.hid (hc4.blk HZ3.out (by omega))
  clear HZ3
  have hb2 : k2 ≠ 0 → readE x = none := by
    intro h
    rcases ho2 with ⟨h0, _⟩ | ⟨_, h1, _⟩
    · exact absurd h0 h
    · unfold readE; rw [h1]
  have hb3 : k2 = 0 → k3 ≠ 0 → readE x = none := by
    intro h0 h
    rcases ho2 with ⟨_, h2⟩ | ⟨h2, _⟩
    · rcases ho3 with ⟨h3, _⟩ | ⟨_, h3, _⟩
      · exact absurd h3 h
      · unfold readE; rw [h2]; dsimp only; rw [h3]
    · exact absurd h0 h2
  have hb4 : k2 = 0 → k3 = 0 → k4 ≠ 0 → readE x = none := by
    intro h0 h0' h
    rcases ho2 with ⟨_, h2⟩ | ⟨h2, _⟩
    · rcases ho3 with ⟨_, h3⟩ | ⟨h3, _⟩
      · rcases ho4 with ⟨h4, _⟩ | ⟨_, h4, _⟩
        · exact absurd h4 h
        · unfold readE; rw [h2]; dsimp only; rw [h3]; dsimp only; rw [h4]; (try rfl)
      · exact absurd h0' h3
    · exact absurd h0 h2
  have hgood : k2 = 0 → k3 = 0 → k4 = 0 → readE x = (match (if v4 = 1 then getB 65536 r4 else some ([], r4)) with
        | none => none
        | some (val, r5) => if r5 = [] ∧ MayE ⟨y2, v3, v4, val⟩ then some ⟨y2, v3, v4, val⟩ else none) := by
    intro h0 h0' h0''
    rcases ho2 with ⟨_, h2⟩ | ⟨h2, _⟩
    · rcases ho3 with ⟨_, h3⟩ | ⟨h3, _⟩
      · rcases ho4 with ⟨_, h4⟩ | ⟨h4, _⟩
        · unfold readE; rw [h2]; dsimp only; rw [h3]; dsimp only; rw [h4]; (try rfl)
        · exact absurd h0'' h4
      · exact absurd h0' h3
    · exact absurd h0 h2
  have hbad : k2 = 0 → k3 = 0 → k4 = 0 → (∀ val, ¬ MayE ⟨y2, v3, v4, val⟩) → readE x = none := by
    intro h0 h1 h2 hm
    rw [hgood h0 h1 h2]
    split
    · rfl
    · rw [if_neg (fun h => hm _ h.2)]
  have hown3 := hown2.chg1 hr2 hc3
  have hown4 := (hown3.chg1 hr3 hc4).mono (show w.heap.size + 1 ≤ W0.heap.size from by omega)
  have hy2 : y2.length ≤ 32 := by
    rcases ho2 with ⟨_, h2⟩ | ⟨_, _, h2, _⟩
    · exact getB_le h2
    · rw [h2]; simp
  have HB2 := Lib.hid hb2
  have HB3 := Lib.hid hb3
  have HB4 := Lib.hid hb4
  have HGD := Lib.hid hgood
  have HBD := Lib.hid hbad
  have HOWN := Lib.hid hown4
  clear hb2 hb3 hb4 hgood hbad ho2 ho3 ho4 hr0 hr2 hr3 hc2 hc3 hc4 hown2 hown3 hown4 e0 e2 e3 hs0 HW0
  have hw4 : w.heap.size + 1 < w4.heap.size := hr4.lt
  have hw04 : w.heap.size < w4.heap.size := by omega
  obtain ⟨z0, z1, z2, z3, y0, y1, y2f, y3⟩ := cells4 HZ4.out
  by_cases q2 : k2 = 0
  · by_cases q3 : k3 = 0
    · by_cases q4 : k4 = 0
      · subst q2 q3 q4
        by_cases q5 : (2147483647 : Int) < (v3 : Int)
        · have hb := HBD.out rfl rfl rfl (fun val hm => by have := hm.2.2.2.1; dsimp only at this; omega)
          have HB := Lib.hid hb
          clear hb
          go_wp2
          (refine bodyPost_ret (v := .tuple #[.agg #[.slice none 0 0, .int .i64 0, .int .i64 0, .slice none 0 0], .int .i64 4]) (by simp [results, Try.f22, go_sem, z0, z1, z2, z3]) rfl ?_; exact ⟨_, by rw [(rd_bad HB.out).2], by rw [(rd_bad HB.out).1]; exact FrE.zero _ _, (by with_reducible (repeat (first | exact Ext.rfl_ _ | assumption | refine Ext.drew ?_ | refine Ext.drewN ?_ _ | refine Ext.alloc ?_ _ | refine Ext.setCell ?_ (by first | (simp; done) | (simp; omega)) _ | refine Ext.trans ?_ (by assumption))))⟩)
        · by_cases q6 : (2 : Int) < (v4 : Int)
          · have hb := HBD.out rfl rfl rfl (fun val hm => by have := hm.2.2.2.2.2; dsimp only at this; omega)
            have HB := Lib.hid hb
            clear hb
            go_wp2
            (refine bodyPost_ret (v := .tuple #[.agg #[.slice none 0 0, .int .i64 0, .int .i64 0, .slice none 0 0], .int .i64 4]) (by simp [results, Try.f22, go_sem, z0, z1, z2, z3]) rfl ?_; exact ⟨_, by rw [(rd_bad HB.out).2], by rw [(rd_bad HB.out).1]; exact FrE.zero _ _, (by with_reducible (repeat (first | exact Ext.rfl_ _ | assumption | refine Ext.drew ?_ | refine Ext.drewN ?_ _ | refine Ext.alloc ?_ _ | refine Ext.setCell ?_ (by first | (simp; done) | (simp; omega)) _ | refine Ext.trans ?_ (by assumption))))⟩)
          · have hws : IntKind.i64.wrap (v3 : Int) = (v3 : Int) := by rw [IntKind.wrap_i64]; omega
            have hwk : IntKind.i64.wrap (v4 : Int) = (v4 : Int) := by rw [IntKind.wrap_i64]; omega
            have hX4 := blk1 w4 (.cells #[.slice A2 n2 c2, .int .i64 (v3 : Int), .int .i64 (v4 : Int), .slice none 0 0] 25)
            have hE4 : Ext w4 (w4.alloc (.cells #[.slice A2 n2 c2, .int .i64 (v3 : Int), .int .i64 (v4 : Int), .slice none 0 0] 25)) := Ext.alloc (Ext.rfl_ w4) _
            have HGD2 := Lib.hid (HGD.out rfl rfl rfl)
            by_cases q1 : v4 = 1
            · subst q1
              have hwk1 : IntKind.i64.wrap 1 = 1 := rfl
              have hr4' := Lib.hid (hr4.ext hE4)
              have HHX4 := Lib.hid hX4
              have HHE4 := Lib.hid hE4
              clear hX4 hE4
              go_wp2_with fail
              refine (rb1_any (w.heap.size + 1) 65536 r4 _ hr4'.out (by decide)).mono ?_
              rintro e w5 ⟨A5, n5, c5, k5, y5, r5, rfl, ho5, hown5, hr5, hc5⟩
              have HZ5 := Lib.hid (hc5.blk (HHE4.out.blk HZ4.out) (by omega))
              have HX5 := Lib.hid (hc5.blk HHX4.out (by omega))
              have e5 : Ext w w5 := (Ext.trans e4 HHE4.out).chg hc5 (by omega)
              have HOWN5 := Lib.hid ((HOWN.out.ext HHE4.out).chg1 hr4'.out hc5)
              have hw5 : w4.heap.size < w5.heap.size := by have := hc5.size; simp at this; omega
              have hw05 : w.heap.size < w5.heap.size := by omega
              have hy5 : y5.length ≤ 65536 := by
                rcases ho5 with ⟨_, h2⟩ | ⟨_, _, h2, _⟩
                · exact getB_le h2
                · rw [h2]; simp
              have HO5 := Lib.hid ho5
              have HOW5 := Lib.hid (hown5.mono (show w.heap.size + 1 ≤ _ from by simp; omega))
              clear ho5 hown5 hc5
              by_cases q5 : k5 = 0
              · subst q5
                have hgx : readE x = if r5 = [] ∧ MayE ⟨y2, v3, 1, y5⟩ then some ⟨y2, v3, 1, y5⟩ else none := by
                  have := HGD2.out
                  rw [if_pos trivial] at this
                  rcases HO5.out with ⟨_, h2⟩ | ⟨h2, _⟩
                  · rw [this, h2]; rfl
                  · exact absurd rfl h2
                have HGX := Lib.hid hgx
                have HXF := Lib.hid (set3 HX5.out (.slice A5 n5 c5))
                have HZF := Lib.hid ((Below.heap_setCell _ ⟨w4.heap.size, 3, none⟩ (.slice A5 n5 c5) _ (by simp; omega)).trans HZ5.out)
                have HRD5 := Lib.hid (hr5.other HX5.out four_no (by omega) 3 (.slice A5 n5 c5))
                have HEF := Lib.hid (Ext.setCell e5 (p := ⟨w4.heap.size, 3, none⟩) (by simp; omega) (.slice A5 n5 c5))
                have HOF := Lib.hid (HOWN5.out.chg HX5.out (by decide) ((Chg.rfl_ _ _).setCell 3 (.slice A5 n5 c5)))
                have HPF := Lib.hid (HOW5.out.chg HX5.out (by decide) ((Chg.rfl_ _ _).setCell 3 (.slice A5 n5 c5)))
                have HWF := Lib.hid (show w.heap.size < (w5.setCell ⟨w4.heap.size, 3, none⟩ (.slice A5 n5 c5)).heap.size from by simpa [World.setCell] using hw05)
                have hre : RdE (w5.setCell ⟨w4.heap.size, 3, none⟩ (.slice A5 n5 c5)) (.agg #[.slice A2 n2 c2, .int .i64 (v3 : Int), .int .i64 1, .slice A5 n5 c5]) ⟨y2, v3, 1, y5⟩ := by
                  obtain ⟨B, d, e, hd, hr, _⟩ := HOF.out.form
                  obtain ⟨B', d', e', hd', hr', _⟩ := HPF.out.form
                  cases e
                  cases e'
                  exact ⟨A2, _, c2, A5, _, c5, rfl, hr, hr', hd, by unfold B47; omega, hd', by unfold B47; omega⟩
                have HRE := Lib.hid hre
                obtain ⟨b0, b1, b2, b3, d0, d1, d2, d3⟩ := cells4 HX5.out
                obtain ⟨bb0, bb1, bb2, bb3, dd0, dd1, dd2, dd3⟩ := cells4 HXF.out
                clear hgx hre hr5 HHX4 HHE4 hr4' z0 z1 z2 z3 y0 y1 y2f y3 HZ4 hr4 e5 e4
                by_cases q7 : r5 = []
                · subst q7
                  by_cases q8 : MayE ⟨y2, v3, 1, y5⟩
                  · have hok : readE x = some ⟨y2, v3, 1, y5⟩ := by rw [HGX.out, if_pos ⟨rfl, q8⟩]
                    have hmm : mayE ⟨y2, v3, 1, y5⟩ = true := decide_eq_true q8
                    have HM := Lib.hid hmm
                    have HOK := Lib.hid hok
                    clear hok hmm q8
                    go_wp2_with fail
                    refine (r1left_any _ [] _ HRD5.out).mono ?_
                    rintro e w7 ⟨rfl, rfl⟩
                    go_wp2_with fail
                    refine (rmay_any _ ⟨y2, v3, 1, y5⟩ _ HRE.out).mono ?_
                    rintro e w6 ⟨rfl, hw6⟩
                    rw [HM.out]
                    obtain ⟨b0, b1, b2, b3, d0, d1, d2, d3⟩ := cells4 (hw6.blk HXF.out)
                    obtain ⟨z0, z1, z2, z3, y0, y1, y2f, y3⟩ := cells4 (hw6.blk HZF.out)
                    have e6 : Ext w w6 := HEF.out.trans hw6
                    have hw06 : w.heap.size < w6.heap.size := by have := hw6.size; have := HWF.out; omega
                    have HO6 := Lib.hid (HOF.out.ext hw6)
                    have HP6 := Lib.hid (HPF.out.ext hw6)
                    clear hw6
                    go_wp2
                    refine bodyPost_ret (v := .tuple #[.agg #[.slice A2 n2 c2, .int .i64 (v3 : Int), .int .i64 1, .slice A5 n5 c5], .int .i64 0]) (by simp [results, Try.f22, go_sem, z0, z1, z2, z3, hw06]) rfl ?_
                    refine ⟨_, by rw [(rd_ok HOK.out).2], ?_, (by with_reducible (repeat (first | exact Ext.rfl_ _ | assumption | refine Ext.drew ?_ | refine Ext.drewN ?_ _ | refine Ext.alloc ?_ _ | refine Ext.setCell ?_ (by first | (simp; done) | (simp; omega)) _ | refine Ext.trans ?_ (by assumption))))⟩
                    rw [(rd_ok HOK.out).1]
                    refine FrE.mk_ ?_ ?_ rfl rfl (by dsimp only; unfold B47; omega) (by dsimp only; unfold B47; omega)
                    · exact (((((HO6.out.setLow (by simp) _).setLow (by simp) _).setLow (by simp) _).setLow (by simp) _).mono (Nat.le_succ _))
                    · exact (((((HP6.out.setLow (by simp) _).setLow (by simp) _).setLow (by simp) _).setLow (by simp) _).mono (Nat.le_succ _))
                  · have hb : readE x = none := by rw [HGX.out, if_neg (fun h => q8 h.2)]
                    have HB := Lib.hid hb
                    have hmm : mayE ⟨y2, v3, 1, y5⟩ = false := decide_eq_false q8
                    have HM := Lib.hid hmm
                    clear hb hmm q8
                    go_wp2_with fail
                    refine (r1left_any _ [] _ HRD5.out).mono ?_
                    rintro e w7 ⟨rfl, rfl⟩
                    go_wp2_with fail
                    refine (rmay_any _ ⟨y2, v3, 1, y5⟩ _ HRE.out).mono ?_
                    rintro e w6 ⟨rfl, hw6⟩
                    rw [HM.out]
                    obtain ⟨b0, b1, b2, b3, d0, d1, d2, d3⟩ := cells4 (hw6.blk HXF.out)
                    obtain ⟨z0, z1, z2, z3, y0, y1, y2f, y3⟩ := cells4 (hw6.blk HZF.out)
                    have e6 : Ext w w6 := HEF.out.trans hw6
                    clear hw6
                    go_wp2
                    (refine bodyPost_ret (v := .tuple #[.agg #[.slice none 0 0, .int .i64 0, .int .i64 0, .slice none 0 0], .int .i64 4]) (by simp [results, Try.f22, go_sem, z0, z1, z2, z3]) rfl ?_; exact ⟨_, by rw [(rd_bad HB.out).2], by rw [(rd_bad HB.out).1]; exact FrE.zero _ _, (by with_reducible (repeat (first | exact Ext.rfl_ _ | assumption | refine Ext.drew ?_ | refine Ext.drewN ?_ _ | refine Ext.alloc ?_ _ | refine Ext.setCell ?_ (by first | (simp; done) | (simp; omega)) _ | refine Ext.trans ?_ (by assumption))))⟩)
                · have hb : readE x = none := by rw [HGX.out, if_neg (fun h => q7 h.1)]
                  have HB := Lib.hid hb
                  have hpos : (0 : Int) < (r5.length : Int) := by have := List.length_pos_iff.2 q7; omega
                  have hpos2 : 0 < r5.length := List.length_pos_iff.2 q7
                  clear hb
                  go_wp2_with fail
                  refine (r1left_any _ r5 _ HRD5.out).mono ?_
                  rintro e w7 ⟨rfl, rfl⟩
                  obtain ⟨z0, z1, z2, z3, y0, y1, y2f, y3⟩ := cells4 HZF.out
                  have e6 := HEF.out
                  go_wp2
                  (refine bodyPost_ret (v := .tuple #[.agg #[.slice none 0 0, .int .i64 0, .int .i64 0, .slice none 0 0], .int .i64 4]) (by simp [results, Try.f22, go_sem, z0, z1, z2, z3]) rfl ?_; exact ⟨_, by rw [(rd_bad HB.out).2], by rw [(rd_bad HB.out).1]; exact FrE.zero _ _, (by with_reducible (repeat (first | exact Ext.rfl_ _ | assumption | refine Ext.drew ?_ | refine Ext.drewN ?_ _ | refine Ext.alloc ?_ _ | refine Ext.setCell ?_ (by first | (simp; done) | (simp; omega)) _ | refine Ext.trans ?_ (by assumption))))⟩)
              · have hb : readE x = none := by
                  have := HGD2.out
                  rw [if_pos trivial] at this
                  rcases HO5.out with ⟨h2, _⟩ | ⟨_, h2, _⟩
                  · exact absurd h2 q5
                  · rw [this, h2]
                have HB := Lib.hid hb
                have q5' : (k5 != 0) = true := by simpa using q5
                obtain ⟨zz0, zz1, zz2, zz3, yy0, yy1, yy2, yy3⟩ := cells4 HZ5.out
                clear hb z0 z1 z2 z3 y0 y1 y2f y3 e4
                go_wp2
                (refine bodyPost_ret (v := .tuple #[.agg #[.slice none 0 0, .int .i64 0, .int .i64 0, .slice none 0 0], .int .i64 4]) (by simp [results, Try.f22, go_sem, zz0, zz1, zz2, zz3]) rfl ?_; exact ⟨_, by rw [(rd_bad HB.out).2], by rw [(rd_bad HB.out).1]; exact FrE.zero _ _, (by with_reducible (repeat (first | exact Ext.rfl_ _ | assumption | refine Ext.drew ?_ | refine Ext.drewN ?_ _ | refine Ext.alloc ?_ _ | refine Ext.setCell ?_ (by first | (simp; done) | (simp; omega)) _ | refine Ext.trans ?_ (by assumption))))⟩)
            · have hq1 : ((v4 : Int) == 1) = false := by simp; omega
              obtain ⟨r5, hr5⟩ : ∃ r5, r5 = r4 := ⟨_, rfl⟩
              have hgx : readE x = if r5 = [] ∧ MayE ⟨y2, v3, v4, []⟩ then some ⟨y2, v3, v4, []⟩ else none := by
                have := HGD2.out
                rw [if_neg q1] at this
                rw [hr5]; exact this
              rw [← hr5] at hr4
              have HGX := Lib.hid hgx
              have HXF := Lib.hid hX4
              have HZF := Lib.hid (hE4.blk HZ4.out)
              have HRD5 := Lib.hid (hr4.ext hE4)
              have HEF := Lib.hid (e4.trans hE4)
              have HOF := Lib.hid (HOWN.out.ext hE4)
              have HPF := Lib.hid (OwnB.nil (w4.alloc (.cells #[.slice A2 n2 c2, .int .i64 (v3 : Int), .int .i64 (v4 : Int), .slice none 0 0] 25)) (w.heap.size + 1))
              have HWF := Lib.hid (show w.heap.size < (w4.alloc (.cells #[.slice A2 n2 c2, .int .i64 (v3 : Int), .int .i64 (v4 : Int), .slice none 0 0] 25)).heap.size from by simp; omega)
              have hre : RdE (w4.alloc (.cells #[.slice A2 n2 c2, .int .i64 (v3 : Int), .int .i64 (v4 : Int), .slice none 0 0] 25)) (.agg #[.slice A2 n2 c2, .int .i64 (v3 : Int), .int .i64 (v4 : Int), .slice none 0 0]) ⟨y2, v3, v4, []⟩ := by
                obtain ⟨B, d, e, hd, hr, _⟩ := HOF.out.form
                cases e
                exact ⟨A2, _, c2, none, 0, 0, rfl, hr, Rd.nil _ _, hd, by unfold B47; omega, Nat.le_refl _, Nat.zero_le _⟩
              have HRE := Lib.hid hre
              obtain ⟨bb0, bb1, bb2, bb3, dd0, dd1, dd2, dd3⟩ := cells4 HXF.out
              clear hgx hre hX4 hE4 hr5 z0 z1 z2 z3 y0 y1 y2f y3 hr4
              by_cases q7 : r5 = []
              · subst q7
                by_cases q8 : MayE ⟨y2, v3, v4, []⟩
                · have hok : readE x = some ⟨y2, v3, v4, []⟩ := by rw [HGX.out, if_pos ⟨rfl, q8⟩]
                  have hmm : mayE ⟨y2, v3, v4, []⟩ = true := decide_eq_true q8
                  have HM := Lib.hid hmm
                  have HOK := Lib.hid hok
                  clear hok hmm q8
                  go_wp2_with fail
                  refine (r1left_any _ [] _ HRD5.out).mono ?_
                  rintro e w7 ⟨rfl, rfl⟩
                  go_wp2_with fail
                  refine (rmay_any _ ⟨y2, v3, v4, []⟩ _ HRE.out).mono ?_
                  rintro e w6 ⟨rfl, hw6⟩
                  rw [HM.out]
                  obtain ⟨b0, b1, b2, b3, d0, d1, d2, d3⟩ := cells4 (hw6.blk HXF.out)
                  obtain ⟨z0, z1, z2, z3, y0, y1, y2f, y3⟩ := cells4 (hw6.blk HZF.out)
                  have e6 : Ext w w6 := HEF.out.trans hw6
                  have hw06 : w.heap.size < w6.heap.size := by have := hw6.size; have := HWF.out; omega
                  have HO6 := Lib.hid (HOF.out.ext hw6)
                  have HP6 := Lib.hid (HPF.out.ext hw6)
                  clear hw6
                  go_wp2
                  refine bodyPost_ret (v := .tuple #[.agg #[.slice A2 n2 c2, .int .i64 (v3 : Int), .int .i64 (v4 : Int), .slice none 0 0], .int .i64 0]) (by simp [results, Try.f22, go_sem, z0, z1, z2, z3, hw06]) rfl ?_
                  refine ⟨_, by rw [(rd_ok HOK.out).2], ?_, (by with_reducible (repeat (first | exact Ext.rfl_ _ | assumption | refine Ext.drew ?_ | refine Ext.drewN ?_ _ | refine Ext.alloc ?_ _ | refine Ext.setCell ?_ (by first | (simp; done) | (simp; omega)) _ | refine Ext.trans ?_ (by assumption))))⟩
                  rw [(rd_ok HOK.out).1]
                  refine FrE.mk_ ?_ ?_ rfl rfl (by dsimp only; unfold B47; omega) (by dsimp only; exact Nat.zero_le _)
                  · exact (((((HO6.out.setLow (by simp) _).setLow (by simp) _).setLow (by simp) _).setLow (by simp) _).mono (Nat.le_succ _))
                  · exact (((((HP6.out.setLow (by simp) _).setLow (by simp) _).setLow (by simp) _).setLow (by simp) _).mono (Nat.le_succ _))
                · have hb : readE x = none := by rw [HGX.out, if_neg (fun h => q8 h.2)]
                  have HB := Lib.hid hb
                  have hmm : mayE ⟨y2, v3, v4, []⟩ = false := decide_eq_false q8
                  have HM := Lib.hid hmm
                  clear hb hmm q8
                  go_wp2_with fail
                  refine (r1left_any _ [] _ HRD5.out).mono ?_
                  rintro e w7 ⟨rfl, rfl⟩
                  go_wp2_with fail
                  refine (rmay_any _ ⟨y2, v3, v4, []⟩ _ HRE.out).mono ?_
                  rintro e w6 ⟨rfl, hw6⟩
                  rw [HM.out]
                  obtain ⟨b0, b1, b2, b3, d0, d1, d2, d3⟩ := cells4 (hw6.blk HXF.out)
                  obtain ⟨z0, z1, z2, z3, y0, y1, y2f, y3⟩ := cells4 (hw6.blk HZF.out)
                  have e6 : Ext w w6 := HEF.out.trans hw6
                  clear hw6
                  go_wp2
                  (refine bodyPost_ret (v := .tuple #[.agg #[.slice none 0 0, .int .i64 0, .int .i64 0, .slice none 0 0], .int .i64 4]) (by simp [results, Try.f22, go_sem, z0, z1, z2, z3]) rfl ?_; exact ⟨_, by rw [(rd_bad HB.out).2], by rw [(rd_bad HB.out).1]; exact FrE.zero _ _, (by with_reducible (repeat (first | exact Ext.rfl_ _ | assumption | refine Ext.drew ?_ | refine Ext.drewN ?_ _ | refine Ext.alloc ?_ _ | refine Ext.setCell ?_ (by first | (simp; done) | (simp; omega)) _ | refine Ext.trans ?_ (by assumption))))⟩)
              · have hb : readE x = none := by rw [HGX.out, if_neg (fun h => q7 h.1)]
                have HB := Lib.hid hb
                have hpos : (0 : Int) < (r5.length : Int) := by have := List.length_pos_iff.2 q7; omega
                have hpos2 : 0 < r5.length := List.length_pos_iff.2 q7
                clear hb
                go_wp2_with fail
                refine (r1left_any _ r5 _ HRD5.out).mono ?_
                rintro e w7 ⟨rfl, rfl⟩
                obtain ⟨z0, z1, z2, z3, y0, y1, y2f, y3⟩ := cells4 HZ4.out
                go_wp2
                (refine bodyPost_ret (v := .tuple #[.agg #[.slice none 0 0, .int .i64 0, .int .i64 0, .slice none 0 0], .int .i64 4]) (by simp [results, Try.f22, go_sem, z0, z1, z2, z3, hw04]) rfl ?_; exact ⟨_, by rw [(rd_bad HB.out).2], by rw [(rd_bad HB.out).1]; exact FrE.zero _ _, (by with_reducible (repeat (first | exact Ext.rfl_ _ | assumption | refine Ext.drew ?_ | refine Ext.drewN ?_ _ | refine Ext.alloc ?_ _ | refine Ext.setCell ?_ (by first | (simp; done) | (simp; omega)) _ | refine Ext.trans ?_ (by assumption))))⟩)
      · have hb := HB4.out q2 q3 q4
        have HB := Lib.hid hb
        subst q2 q3
        have q4' : (k4 != 0) = true := by simpa using q4
        clear hb
        go_wp2
        (refine bodyPost_ret (v := .tuple #[.agg #[.slice none 0 0, .int .i64 0, .int .i64 0, .slice none 0 0], .int .i64 4]) (by simp [results, Try.f22, go_sem, z0, z1, z2, z3]) rfl ?_; exact ⟨_, by rw [(rd_bad HB.out).2], by rw [(rd_bad HB.out).1]; exact FrE.zero _ _, (by with_reducible (repeat (first | exact Ext.rfl_ _ | assumption | refine Ext.drew ?_ | refine Ext.drewN ?_ _ | refine Ext.alloc ?_ _ | refine Ext.setCell ?_ (by first | (simp; done) | (simp; omega)) _ | refine Ext.trans ?_ (by assumption))))⟩)
    · have hb := HB3.out q2 q3
      have HB := Lib.hid hb
      subst q2
      have q3' : (k3 != 0) = true := by simpa using q3
      clear hb
      go_wp2
      (refine bodyPost_ret (v := .tuple #[.agg #[.slice none 0 0, .int .i64 0, .int .i64 0, .slice none 0 0], .int .i64 4]) (by simp [results, Try.f22, go_sem, z0, z1, z2, z3]) rfl ?_; exact ⟨_, by rw [(rd_bad HB.out).2], by rw [(rd_bad HB.out).1]; exact FrE.zero _ _, (by with_reducible (repeat (first | exact Ext.rfl_ _ | assumption | refine Ext.drew ?_ | refine Ext.drewN ?_ _ | refine Ext.alloc ?_ _ | refine Ext.setCell ?_ (by first | (simp; done) | (simp; omega)) _ | refine Ext.trans ?_ (by assumption))))⟩)
  · have hb := HB2.out q2
    have HB := Lib.hid hb
    have q2' : (k2 != 0) = true := by simpa using q2
    clear hb
    go_wp2
    (refine bodyPost_ret (v := .tuple #[.agg #[.slice none 0 0, .int .i64 0, .int .i64 0, .slice none 0 0], .int .i64 4]) (by simp [results, Try.f22, go_sem, z0, z1, z2, z3]) rfl ?_; exact ⟨_, by rw [(rd_bad HB.out).2], by rw [(rd_bad HB.out).1]; exact FrE.zero _ _, (by with_reducible (repeat (first | exact Ext.rfl_ _ | assumption | refine Ext.drew ?_ | refine Ext.drewN ?_ _ | refine Ext.alloc ?_ _ | refine Ext.setCell ?_ (by first | (simp; done) | (simp; omega)) _ | refine Ext.trans ?_ (by assumption))))⟩)

end Go.Proofs.Ytpohmoakilioiaa
