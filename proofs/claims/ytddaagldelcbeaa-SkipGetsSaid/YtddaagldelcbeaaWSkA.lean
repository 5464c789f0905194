/- The walks of SkipHeights, SkipPuts, SkipGoes. Conditions: what comes in reads. -/
import Derived.Test.YtddaagldelcbeaaKnow6
import Derived.Test.YtddaagldelcbeaaFill
import Derived.Test.YtddaagldelcbeaaRf6R
namespace Go.Proofs.Ytddaagldelcbeaa
set_option linter.unusedSimpArgs false
set_option linter.unusedVariables false
open Go.RowKit Go.Shelf

set_option maxRecDepth 100000 in
set_option maxHeartbeats 2000000 in
theorem heights_walk (A : Option Addr) (n c : Nat) (sq : Int) (k : Bs) (w : World) (hk : Rd w A n k) (hnc : n ≤ c) (hn : n ≤ B47) :
    Calls Try.prog 3 #[.slice A n c, .int .i64 sq] w fun e w' => e = .returned (.bool true) ∧ Ext w w' := by
  have HK := Lib.hid hk
  have hn2 := hn
  unfold B47 at hn2
  clear hk
  by_cases h9 : (9000 : Int) < (n : Int)
  · go_enter Try.func3, Try.ntmps3
    go_wp2_with fail
    refine (known_any _).mono ?_
    rintro e w1 ⟨rfl, hw1⟩
    go_wp2
    go_ret
    exact ⟨rfl, (by with_reducible (repeat (first | exact Ext.rfl_ _ | assumption | refine Ext.drew ?_ | refine Ext.drewN ?_ _ | refine Ext.alloc ?_ _ | refine Ext.trans ?_ (by assumption))))⟩
  · go_enter Try.func3, Try.ntmps3
    go_wp2_with fail
    refine (height_any A n c k sq _ (HK.out.ext (by with_reducible (repeat (first | exact Ext.rfl_ _ | assumption | refine Ext.drew ?_ | refine Ext.drewN ?_ _ | refine Ext.alloc ?_ _ | refine Ext.trans ?_ (by assumption))))) hn).mono ?_
    rintro e w1 ⟨rfl, hw1⟩
    have X1 := Lib.hid (show Ext w w1 from (by with_reducible (repeat (first | exact Ext.rfl_ _ | assumption | refine Ext.drew ?_ | refine Ext.drewN ?_ _ | refine Ext.alloc ?_ _ | refine Ext.trans ?_ (by assumption)))))
    obtain ⟨h1, h8⟩ := htH_le k sq
    obtain ⟨z, hz⟩ : ∃ z, z = htH k sq := ⟨_, rfl⟩
    rw [← hz] at h1 h8 ⊢
    have HZ := Lib.hid hz
    have h1I : (1 : Int) ≤ (z : Int) := by omega
    have h8I : (z : Int) ≤ 8 := by omega
    have hzz : (z == z) = true := by simp
    clear hw1 hz
    go_wp2_with fail
    refine (rheight_any A n c k sq _ (HK.out.ext X1.out) hn).mono ?_
    rintro e w2 ⟨rfl, hw2⟩
    rw [hw2, ← HZ.out]
    clear hw2
    go_wp2_with fail
    refine (known_any _).mono ?_
    rintro e w3 ⟨rfl, hw3⟩
    go_wp2
    go_ret
    exact ⟨rfl, X1.out.trans (by with_reducible (repeat (first | exact Ext.rfl_ _ | assumption | refine Ext.drew ?_ | refine Ext.drewN ?_ _ | refine Ext.alloc ?_ _ | refine Ext.trans ?_ (by assumption))))⟩

theorem drop_all (xs : List Ent) : (xs.dropWhile fun y => decide (cmpK y.key [] < 0)) = xs := by
  cases xs with
  | nil => rfl
  | cons x xs =>
    have h := cmpK_anti [] x.key
    have h2 := cmpK_nil x.key
    have h3 : ¬ cmpK x.key [] < 0 := by
      rw [h, h2]
      split <;> omega
    rw [List.dropWhile_cons_of_neg (by simpa using h3)]

/-- What fill leaves. -/
theorem FilI.facts {w w' : World} {xs : List Ent} {g h n : Nat} {L : List Nd} {A' : Option Addr} {n' c' : Nat} (hl : xs.length = n) (F : FilI w xs g h n L A' n' c' w') : putAll xs = L.map Nd.x ∧ n' = L.length ∧ RdL w' A' n' (L.map Nd.x) ∧ (∀ x ∈ L.map Nd.x, mayE x = true) ∧ n' ≤ n := by
  have e : xs.take n = xs := by rw [← hl, List.take_length]
  have h1 := F.e
  rw [e] at h1
  have h2 := F.r.rdl
  rw [e, ← h1] at h2
  have h3 := h2.1
  rw [List.length_map] at h3
  refine ⟨h1.symm, h3.symm, h2, fun x hx => ?_, by have := F.len; omega⟩
  obtain ⟨nd, hm, rfl⟩ := List.mem_map.1 hx
  exact F.s.may nd hm

theorem goesAll_any (g h : Nat) (L : List Nd) (A' : Option Addr) (n' c' : Nat) (most : Int) (w w2 : World) (s : SkL w2 g h L)
    (hx : Ext ((w.alloc (.cells #[.pointer (some ⟨g, 0, none⟩)] 28)).alloc (.cells #[.slice none 0 0] 22)) w2) (hw : RdL w2 A' n' (L.map Nd.x)) :
    Calls Try.prog 18 #[.func (.func 42) #[] #[.pointer (some ⟨w.heap.size, 0, none⟩), .pointer (some ⟨w.heap.size + 1, 0, none⟩)], .slice A' n' c', .int .i64 most] w2 fun e w' => e = .returned (.bool true) ∧ Ext w2 w' :=
  goesFrom_any g h L none 0 0 [] A' n' c' most w w2 s (Rd.nil _ _) hx (by rw [drop_all]; exact hw)

set_option maxRecDepth 100000 in
set_option maxHeartbeats 4000000 in
theorem puts_walk (A : Option Addr) (n c : Nat) (lv : Int) (xs : List Ent) (w : World) (hl : RdL w A n xs) (hnc : n ≤ c) :
    Calls Try.prog 4 #[.slice A n c, .int .i64 lv] w fun e w' => e = .returned (.bool true) ∧ Ext w w' := by
  have HL := Lib.hid hl
  have hxl := hl.1
  clear hl
  by_cases hf : (decide (n ≤ 200) && !decide (200000 < wt xs)) = true
  · have hn200 : n ≤ 200 := by simp at hf; exact hf.1
    have HFW := Lib.hid hf
    clear hf
    go_enter Try.func4, Try.ntmps4
    go_wp2_with fail
    refine (few_any A n c xs _ (HL.out.ext (by with_reducible (repeat (first | exact Ext.rfl_ _ | assumption | refine Ext.drew ?_ | refine Ext.drewN ?_ _ | refine Ext.alloc ?_ _ | refine Ext.trans ?_ (by assumption)))))).mono ?_
    rintro e w1 ⟨rfl, hw1⟩
    rw [HFW.out]
    go_wp2_with fail
    refine (fill_any A n c xs _ (HL.out.ext (by with_reducible (repeat (first | exact Ext.rfl_ _ | assumption | refine Ext.drew ?_ | refine Ext.drewN ?_ _ | refine Ext.alloc ?_ _ | refine Ext.trans ?_ (by assumption))))) hnc (by omega)).mono ?_
    rintro e w2 ⟨g, h, L, A', n', c', rfl, hF⟩
    obtain ⟨f1, rfl, f3, f4, f5⟩ := hF.facts hxl
    have HF := Lib.hid hF
    have X2 := Lib.hid ((show Ext w w1 from (by with_reducible (repeat (first | exact Ext.rfl_ _ | assumption | refine Ext.drew ?_ | refine Ext.drewN ?_ _ | refine Ext.alloc ?_ _ | refine Ext.trans ?_ (by assumption))))).trans hF.ext)
    have HR := Lib.hid f3
    have HM := Lib.hid f4
    have hll : ((L.length : Int) == (L.length : Int)) = true := by simp
    have hnc2 := hF.nc
    have HNC := Lib.hid hnc2
    clear hF f1 f3 f4 hw1 hnc2
    go_wp2_with fail
    refine (len_any g h L w2 HF.out.s).mono ?_
    rintro e w3 ⟨rfl, hw3⟩
    rw [hw3]
    clear hw3
    go_wp2_with fail
    refine (skbytes_any g h L w2 HF.out.s).mono ?_
    rintro e w3 ⟨rfl, hw3⟩
    rw [hw3]
    clear hw3
    obtain ⟨M, hM⟩ : ∃ M, M = wB (L.map Nd.x) := ⟨_, rfl⟩
    rw [← hM]
    have HMM := Lib.hid (show wB6 (L.map Nd.x) = M from hM.symm)
    have hmm : ((M : Int) == (M : Int)) = true := by simp
    clear hM
    go_wp2_with fail
    refine (rbytes6_any A' L.length c' (L.map Nd.x) w2 HR.out HNC.out HM.out (by omega)).mono ?_
    rintro e w3 ⟨rfl, hw3⟩
    rw [HMM.out]
    have X23 := Lib.hid hw3
    clear hw3
    go_wp2_with fail
    refine (from_any g none 0 0 _).mono ?_
    rintro e w4 ⟨rfl, hw4⟩
    have X34 : Ext w3 w4 := by rw [hw4]; exact (by with_reducible (repeat (first | exact Ext.rfl_ _ | assumption | refine Ext.drew ?_ | refine Ext.drewN ?_ _ | refine Ext.alloc ?_ _ | refine Ext.trans ?_ (by assumption))))
    have HW4 := Lib.hid hw4
    clear hw4
    go_wp2_with fail
    refine (goesAll_any g h L A' L.length c' lv w3 w4 ((HF.out.s.ext X23.out).ext X34) (by rw [HW4.out]; exact Ext.rfl_ _) ((HR.out.ext X23.out).ext X34)).mono ?_
    rintro e w5 ⟨rfl, hw5⟩
    go_wp2_with fail
    refine (from_any g none 0 0 _).mono ?_
    rintro e w6 ⟨rfl, hw6⟩
    have X56 : Ext w5 w6 := by rw [hw6]; exact (by with_reducible (repeat (first | exact Ext.rfl_ _ | assumption | refine Ext.drew ?_ | refine Ext.drewN ?_ _ | refine Ext.alloc ?_ _ | refine Ext.trans ?_ (by assumption))))
    have HW6 := Lib.hid hw6
    clear hw6
    go_wp2_with fail
    refine (goesAll_any g h L A' L.length c' 0 w5 w6 ((HF.out.s.ext X23.out).ext (by with_reducible (repeat (first | exact Ext.rfl_ _ | assumption | refine Ext.drew ?_ | refine Ext.drewN ?_ _ | refine Ext.alloc ?_ _ | refine Ext.trans ?_ (by assumption))))) (by rw [HW6.out]; exact Ext.rfl_ _) ((HR.out.ext X23.out).ext (by with_reducible (repeat (first | exact Ext.rfl_ _ | assumption | refine Ext.drew ?_ | refine Ext.drewN ?_ _ | refine Ext.alloc ?_ _ | refine Ext.trans ?_ (by assumption)))))).mono ?_
    rintro e w7 ⟨rfl, hw7⟩
    go_wp2_with fail
    refine (known_any _).mono ?_
    rintro e w8 ⟨rfl, hw8⟩
    go_wp2
    go_ret
    exact ⟨rfl, X2.out.trans (X23.out.trans (by with_reducible (repeat (first | exact Ext.rfl_ _ | assumption | refine Ext.drew ?_ | refine Ext.drewN ?_ _ | refine Ext.alloc ?_ _ | refine Ext.trans ?_ (by assumption)))))⟩
  · have hf' : (decide (n ≤ 200) && !decide (200000 < wt xs)) = false := by simpa using hf
    have HFW := Lib.hid hf'
    clear hf hf'
    go_enter Try.func4, Try.ntmps4
    go_wp2_with fail
    refine (few_any A n c xs _ (HL.out.ext (by with_reducible (repeat (first | exact Ext.rfl_ _ | assumption | refine Ext.drew ?_ | refine Ext.drewN ?_ _ | refine Ext.alloc ?_ _ | refine Ext.trans ?_ (by assumption)))))).mono ?_
    rintro e w1 ⟨rfl, hw1⟩
    rw [HFW.out]
    go_wp2_with fail
    refine (known_any _).mono ?_
    rintro e w2 ⟨rfl, hw2⟩
    go_wp2
    go_ret
    exact ⟨rfl, (by with_reducible (repeat (first | exact Ext.rfl_ _ | assumption | refine Ext.drew ?_ | refine Ext.drewN ?_ _ | refine Ext.alloc ?_ _ | refine Ext.trans ?_ (by assumption))))⟩

set_option maxRecDepth 100000 in
set_option maxHeartbeats 4000000 in
theorem goes_walk (A : Option Addr) (n c : Nat) (B : Option Addr) (m d : Nat) (z lv : Int) (xs : List Ent) (k : Bs) (w : World) (hl : RdL w A n xs) (hnc : n ≤ c) (hk : Rd w B m k) (hmd : m ≤ d) (hm : m ≤ B47) :
    Calls Try.prog 6 #[.slice A n c, .slice B m d, .int .i64 z, .int .i64 lv] w fun e w' => e = .returned (.bool true) ∧ Ext w w' := by
  have HL := Lib.hid hl
  have HK := Lib.hid hk
  have hxl := hl.1
  have hm2 := hm
  unfold B47 at hm2
  clear hl hk
  by_cases hf : (decide (n ≤ 200) && !decide (200000 < wt xs)) = true
  · have hn200 : n ≤ 200 := by simp at hf; exact hf.1
    have HFW := Lib.hid hf
    clear hf
    by_cases h9 : (9000 : Int) < (m : Int)
    · go_enter Try.func6, Try.ntmps6
      go_wp2_with fail
      refine (few_any A n c xs _ (HL.out.ext (by with_reducible (repeat (first | exact Ext.rfl_ _ | assumption | refine Ext.drew ?_ | refine Ext.drewN ?_ _ | refine Ext.alloc ?_ _ | refine Ext.trans ?_ (by assumption)))))).mono ?_
      rintro e w1 ⟨rfl, hw1⟩
      rw [HFW.out]
      go_wp2_with fail
      refine (known_any _).mono ?_
      rintro e w2 ⟨rfl, hw2⟩
      go_wp2
      go_ret
      exact ⟨rfl, (by with_reducible (repeat (first | exact Ext.rfl_ _ | assumption | refine Ext.drew ?_ | refine Ext.drewN ?_ _ | refine Ext.alloc ?_ _ | refine Ext.trans ?_ (by assumption))))⟩
    · go_enter Try.func6, Try.ntmps6
      go_wp2_with fail
      refine (few_any A n c xs _ (HL.out.ext (by with_reducible (repeat (first | exact Ext.rfl_ _ | assumption | refine Ext.drew ?_ | refine Ext.drewN ?_ _ | refine Ext.alloc ?_ _ | refine Ext.trans ?_ (by assumption)))))).mono ?_
      rintro e w1 ⟨rfl, hw1⟩
      rw [HFW.out]
      go_wp2_with fail
      refine (fill_any A n c xs _ (HL.out.ext (by with_reducible (repeat (first | exact Ext.rfl_ _ | assumption | refine Ext.drew ?_ | refine Ext.drewN ?_ _ | refine Ext.alloc ?_ _ | refine Ext.trans ?_ (by assumption))))) hnc (by omega)).mono ?_
      rintro e w2 ⟨g, h, L, A', n', c', rfl, hF⟩
      obtain ⟨f1, rfl, f3, f4, f5⟩ := hF.facts hxl
      have HF := Lib.hid hF
      have X2 := Lib.hid ((show Ext w w1 from (by with_reducible (repeat (first | exact Ext.rfl_ _ | assumption | refine Ext.drew ?_ | refine Ext.drewN ?_ _ | refine Ext.alloc ?_ _ | refine Ext.trans ?_ (by assumption))))).trans hF.ext)
      have HR := Lib.hid f3
      have hnc2 := hF.nc
      clear hF f1 f3 f4 hw1
      go_wp2_with fail
      refine (rfrom_any A' L.length c' (L.map Nd.x) B m d k w2 HR.out hnc2 (HK.out.ext X2.out) hm).mono ?_
      rintro e w3 ⟨⟨A3, n3, c3, rfl, _, hr3⟩, hw3⟩
      have HR3 := Lib.hid hr3
      have X3 := Lib.hid hw3
      clear hr3 hw3
      have hlev : ∀ w', Ext w2 w' → Calls Try.prog 25 #[.slice A' L.length c', .int .i64 z] w' fun e w'' => (∃ A4 n4 c4, e = .returned (.slice A4 n4 c4) ∧ RdL w'' A4 n4 (lvl (L.map Nd.x) z)) ∧ Ext w' w'' := by
        intro w' e
        by_cases hz : z < 0
        · refine (rlevel_no A' L.length c' (L.map Nd.x) z w' (HR.out.ext e) hz).mono ?_
          rintro e2 w4 ⟨rfl, hw4⟩
          have hlv : lvl (L.map Nd.x) z = [] := if_neg (by omega)
          rw [hlv]
          exact ⟨⟨_, _, _, rfl, RdL.nil _ _⟩, hw4⟩
        · obtain ⟨q, rfl⟩ : ∃ q : Nat, z = q := ⟨z.toNat, by omega⟩
          refine (rlevel_any A' L.length c' (L.map Nd.x) q w' (HR.out.ext e) hnc2 (by omega)).mono ?_
          rintro e2 w4 ⟨⟨v, rfl, ho⟩, hw4⟩
          have hlv : lvl (L.map Nd.x) (q : Int) = (L.map Nd.x).filter fun y => decide (q < ht y) := by
            unfold lvl
            by_cases h8 : q < 8
            · rw [if_pos (by omega)]; rfl
            · rw [if_neg (by omega)]
              refine (List.filter_eq_nil_iff.2 fun y _ => ?_).symm
              have := (htH_le y.key y.seq).2
              unfold ht
              simp
              omega
          obtain ⟨A4, n4, c4, rfl, _, hr4, _⟩ := ho.formN (Nat.le_trans (List.length_filter_le _ _) (by rw [List.length_map]; unfold B41; omega))
          rw [hlv]
          exact ⟨⟨A4, n4, c4, rfl, hr4⟩, hw4⟩
      have HLEV := Lib.hid hlev
      clear hlev
      go_wp2_with fail
      refine (HLEV.out _ (X3.out.trans (by with_reducible (repeat (first | exact Ext.rfl_ _ | assumption | refine Ext.drew ?_ | refine Ext.drewN ?_ _ | refine Ext.alloc ?_ _ | refine Ext.trans ?_ (by assumption)))))).mono ?_
      rintro e w4 ⟨⟨A4, n4, c4, rfl, hr4⟩, hw4⟩
      have HR4 := Lib.hid hr4
      have X34 := Lib.hid (show Ext w3 w4 from (by with_reducible (repeat (first | exact Ext.rfl_ _ | assumption | refine Ext.drew ?_ | refine Ext.drewN ?_ _ | refine Ext.alloc ?_ _ | refine Ext.trans ?_ (by assumption)))))
      clear hr4 hw4
      go_wp2_with fail
      refine (from_any g B m d _).mono ?_
      rintro e w5 ⟨rfl, hw5⟩
      have X45 : Ext w4 w5 := by rw [hw5]; exact (by with_reducible (repeat (first | exact Ext.rfl_ _ | assumption | refine Ext.drew ?_ | refine Ext.drewN ?_ _ | refine Ext.alloc ?_ _ | refine Ext.trans ?_ (by assumption))))
      have HW5 := Lib.hid hw5
      clear hw5
      go_wp2_with fail
      refine (goesFrom_any g h L B m d k A3 n3 c3 lv w4 w5 ((HF.out.s.ext (X3.out.trans X34.out)).ext X45) ((HK.out.ext (X2.out.trans (X3.out.trans X34.out))).ext X45) (by rw [HW5.out]; exact Ext.rfl_ _) ((HR3.out.ext X34.out).ext X45)).mono ?_
      rintro e w6 ⟨rfl, hw6⟩
      go_wp2_with fail
      refine (from_any g B m d _).mono ?_
      rintro e w7 ⟨rfl, hw7⟩
      have X67 : Ext w6 w7 := by rw [hw7]; exact (by with_reducible (repeat (first | exact Ext.rfl_ _ | assumption | refine Ext.drew ?_ | refine Ext.drewN ?_ _ | refine Ext.alloc ?_ _ | refine Ext.trans ?_ (by assumption))))
      have HW7 := Lib.hid hw7
      clear hw7
      go_wp2_with fail
      refine (goesFrom_any g h L B m d k A3 n3 c3 0 w6 w7 ((HF.out.s.ext (X3.out.trans X34.out)).ext (by with_reducible (repeat (first | exact Ext.rfl_ _ | assumption | refine Ext.drew ?_ | refine Ext.drewN ?_ _ | refine Ext.alloc ?_ _ | refine Ext.trans ?_ (by assumption))))) ((HK.out.ext (X2.out.trans (X3.out.trans X34.out))).ext (by with_reducible (repeat (first | exact Ext.rfl_ _ | assumption | refine Ext.drew ?_ | refine Ext.drewN ?_ _ | refine Ext.alloc ?_ _ | refine Ext.trans ?_ (by assumption))))) (by rw [HW7.out]; exact Ext.rfl_ _) ((HR3.out.ext X34.out).ext (by with_reducible (repeat (first | exact Ext.rfl_ _ | assumption | refine Ext.drew ?_ | refine Ext.drewN ?_ _ | refine Ext.alloc ?_ _ | refine Ext.trans ?_ (by assumption)))))).mono ?_
      rintro e w8 ⟨rfl, hw8⟩
      go_wp2_with fail
      refine (level_any g z _).mono ?_
      rintro e w9 ⟨rfl, hw9⟩
      have X89 : Ext w8 w9 := by rw [hw9]; exact (by with_reducible (repeat (first | exact Ext.rfl_ _ | assumption | refine Ext.drew ?_ | refine Ext.drewN ?_ _ | refine Ext.alloc ?_ _ | refine Ext.trans ?_ (by assumption))))
      have HW9 := Lib.hid hw9
      clear hw9
      go_wp2_with fail
      refine (goesLevel_any g h L z A4 n4 c4 lv w8 w9 ((HF.out.s.ext (X3.out.trans X34.out)).ext (by with_reducible (repeat (first | exact Ext.rfl_ _ | assumption | refine Ext.drew ?_ | refine Ext.drewN ?_ _ | refine Ext.alloc ?_ _ | refine Ext.trans ?_ (by assumption))))) (by rw [HW9.out]; exact Ext.rfl_ _) (HR4.out.ext (by with_reducible (repeat (first | exact Ext.rfl_ _ | assumption | refine Ext.drew ?_ | refine Ext.drewN ?_ _ | refine Ext.alloc ?_ _ | refine Ext.trans ?_ (by assumption)))))).mono ?_
      rintro e wa ⟨rfl, hwa⟩
      go_wp2_with fail
      refine (level_any g z _).mono ?_
      rintro e wb ⟨rfl, hwb⟩
      have Xab : Ext wa wb := by rw [hwb]; exact (by with_reducible (repeat (first | exact Ext.rfl_ _ | assumption | refine Ext.drew ?_ | refine Ext.drewN ?_ _ | refine Ext.alloc ?_ _ | refine Ext.trans ?_ (by assumption))))
      have HWB := Lib.hid hwb
      clear hwb
      go_wp2_with fail
      refine (goesLevel_any g h L z A4 n4 c4 0 wa wb ((HF.out.s.ext (X3.out.trans X34.out)).ext (by with_reducible (repeat (first | exact Ext.rfl_ _ | assumption | refine Ext.drew ?_ | refine Ext.drewN ?_ _ | refine Ext.alloc ?_ _ | refine Ext.trans ?_ (by assumption))))) (by rw [HWB.out]; exact Ext.rfl_ _) (HR4.out.ext (by with_reducible (repeat (first | exact Ext.rfl_ _ | assumption | refine Ext.drew ?_ | refine Ext.drewN ?_ _ | refine Ext.alloc ?_ _ | refine Ext.trans ?_ (by assumption)))))).mono ?_
      rintro e wc ⟨rfl, hwc⟩
      go_wp2_with fail
      refine (known_any _).mono ?_
      rintro e wd ⟨rfl, hwd⟩
      go_wp2
      go_ret
      exact ⟨rfl, X2.out.trans (X3.out.trans (X34.out.trans (by with_reducible (repeat (first | exact Ext.rfl_ _ | assumption | refine Ext.drew ?_ | refine Ext.drewN ?_ _ | refine Ext.alloc ?_ _ | refine Ext.trans ?_ (by assumption))))))⟩
  · have hf' : (decide (n ≤ 200) && !decide (200000 < wt xs)) = false := by simpa using hf
    have HFW := Lib.hid hf'
    clear hf hf'
    go_enter Try.func6, Try.ntmps6
    go_wp2_with fail
    refine (few_any A n c xs _ (HL.out.ext (by with_reducible (repeat (first | exact Ext.rfl_ _ | assumption | refine Ext.drew ?_ | refine Ext.drewN ?_ _ | refine Ext.alloc ?_ _ | refine Ext.trans ?_ (by assumption)))))).mono ?_
    rintro e w1 ⟨rfl, hw1⟩
    rw [HFW.out]
    go_wp2_with fail
    refine (known_any _).mono ?_
    rintro e w2 ⟨rfl, hw2⟩
    go_wp2
    go_ret
    exact ⟨rfl, (by with_reducible (repeat (first | exact Ext.rfl_ _ | assumption | refine Ext.drew ?_ | refine Ext.drewN ?_ _ | refine Ext.alloc ?_ _ | refine Ext.trans ?_ (by assumption))))⟩


set_option maxRecDepth 100000 in
set_option maxHeartbeats 8000000 in
theorem gets_walk (A : Option Addr) (n c : Nat) (B : Option Addr) (m d : Nat) (sq : Int) (xs : List Ent) (k : Bs) (w : World) (hl : RdL w A n xs) (hnc : n ≤ c) (hk : Rd w B m k) (hmd : m ≤ d) (hm : m ≤ B47) :
    Calls Try.prog 5 #[.slice A n c, .slice B m d, .int .i64 sq] w fun e w' => e = .returned (.bool true) ∧ Ext w w' := by
  have HL := Lib.hid hl
  have HK := Lib.hid hk
  have hxl := hl.1
  have hm2 := hm
  unfold B47 at hm2
  clear hl hk
  by_cases hf : (decide (n ≤ 200) && !decide (200000 < wt xs)) = true
  · have hn200 : n ≤ 200 := by simp at hf; exact hf.1
    have HFW := Lib.hid hf
    clear hf
    by_cases h9 : (9000 : Int) < (m : Int)
    · go_enter Try.func5, Try.ntmps5
      go_wp2_with fail
      refine (few_any A n c xs _ (HL.out.ext (by with_reducible (repeat (first | exact Ext.rfl_ _ | assumption | refine Ext.drew ?_ | refine Ext.drewN ?_ _ | refine Ext.alloc ?_ _ | refine Ext.trans ?_ (by assumption)))))).mono ?_
      rintro e w1 ⟨rfl, hw1⟩
      rw [HFW.out]
      go_wp2_with fail
      refine (known_any _).mono ?_
      rintro e w2 ⟨rfl, hw2⟩
      go_wp2
      go_ret
      exact ⟨rfl, (by with_reducible (repeat (first | exact Ext.rfl_ _ | assumption | refine Ext.drew ?_ | refine Ext.drewN ?_ _ | refine Ext.alloc ?_ _ | refine Ext.trans ?_ (by assumption))))⟩
    · go_enter Try.func5, Try.ntmps5
      go_wp2_with fail
      refine (few_any A n c xs _ (HL.out.ext (by with_reducible (repeat (first | exact Ext.rfl_ _ | assumption | refine Ext.drew ?_ | refine Ext.drewN ?_ _ | refine Ext.alloc ?_ _ | refine Ext.trans ?_ (by assumption)))))).mono ?_
      rintro e w1 ⟨rfl, hw1⟩
      rw [HFW.out]
      go_wp2_with fail
      refine (fill_any A n c xs _ (HL.out.ext (by with_reducible (repeat (first | exact Ext.rfl_ _ | assumption | refine Ext.drew ?_ | refine Ext.drewN ?_ _ | refine Ext.alloc ?_ _ | refine Ext.trans ?_ (by assumption))))) hnc (by omega)).mono ?_
      rintro e w2 ⟨g, h, L, A', n', c', rfl, hF⟩
      obtain ⟨f1, rfl, f3, f4, f5⟩ := hF.facts hxl
      have HF := Lib.hid hF
      have X2 := Lib.hid ((show Ext w w1 from (by with_reducible (repeat (first | exact Ext.rfl_ _ | assumption | refine Ext.drew ?_ | refine Ext.drewN ?_ _ | refine Ext.alloc ?_ _ | refine Ext.trans ?_ (by assumption))))).trans hF.ext)
      have HR := Lib.hid f3
      have hnc2 := hF.nc
      have hgf := gK_find hF.s.up k sq
      have HGF := Lib.hid hgf
      clear hF f1 f3 f4 hw1 hgf
      obtain ⟨y, hy⟩ : ∃ y, y = (gK (L.map Nd.x) k sq).getD ent0 := ⟨_, rfl⟩
      obtain ⟨z, hz⟩ : ∃ z, z = gN (gK (L.map Nd.x) k sq) := ⟨_, rfl⟩
      have HY := Lib.hid hy
      have HZ := Lib.hid hz
      have hzz : (z == z) = true := by simp
      clear hy hz
      go_wp2_with fail
      refine (skget_any g h L B m d k sq w2 HF.out.s (HK.out.ext X2.out) hmd hm).mono ?_
      rintro e w3 ⟨⟨v3, rfl, hf3⟩, hw3⟩
      rw [← HY.out] at hf3
      rw [← HZ.out]
      have HF3 := Lib.hid hf3
      obtain ⟨A3, n3, c3, B3, m3, d3, rfl, o3, p3, r3, s3, b1, b2, b3, b4, _, _⟩ := hf3
      have HP3 := Lib.hid p3
      have X23 := Lib.hid hw3
      have HB3 := Lib.hid (blk1 w3 (.cells #[.slice A3 n3 c3, .int .i64 y.seq, .int .i64 y.kind, .slice B3 m3 d3] 40))
      unfold B47 at b2 b4
      clear o3 p3 r3 s3 hw3
      go_wp2_with fail
      refine (rget_any A' L.length c' (L.map Nd.x) B m d k sq w2 _ (X23.out.trans (by with_reducible (repeat (first | exact Ext.rfl_ _ | assumption | refine Ext.drew ?_ | refine Ext.drewN ?_ _ | refine Ext.alloc ?_ _ | refine Ext.trans ?_ (by assumption))))) HR.out hnc2 (HK.out.ext (X2.out.trans (X23.out.trans (by with_reducible (repeat (first | exact Ext.rfl_ _ | assumption | refine Ext.drew ?_ | refine Ext.drewN ?_ _ | refine Ext.alloc ?_ _ | refine Ext.trans ?_ (by assumption)))))))).mono ?_
      rintro e w4 ⟨⟨v4, rfl, hr4⟩, hw4⟩
      rw [← HGF.out, ← HY.out] at hr4
      rw [← HGF.out, ← HZ.out]
      have HR4 := Lib.hid hr4
      obtain ⟨A4, n4, c4, B4, m4, d4, rfl, _⟩ := hr4
      have HB4 := Lib.hid (blk1 w4 (.cells #[.slice A4 n4 c4, .int .i64 y.seq, .int .i64 y.kind, .slice B4 m4 d4] 40))
      have X34 := Lib.hid (show Ext (w3.alloc (.cells #[.slice A3 n3 c3, .int .i64 y.seq, .int .i64 y.kind, .slice B3 m3 d3] 40)) w4 from hw4)
      clear hw4
      obtain ⟨q0, q1, q2, q3, f0, f1, f2, f3⟩ := box4 HB3.out (w' := w4.alloc (.cells #[.slice A4 n4 c4, .int .i64 y.seq, .int .i64 y.kind, .slice B4 m4 d4] 40)) (X34.out.trans (by with_reducible (repeat (first | exact Ext.rfl_ _ | assumption | refine Ext.drew ?_ | refine Ext.drewN ?_ _ | refine Ext.alloc ?_ _ | refine Ext.trans ?_ (by assumption)))))
      obtain ⟨p0, p1, p2, p3, g0, g1, g2, g3⟩ := box4 HB4.out (Ext.rfl_ _)
      go_wp2_with fail
      refine (rsame_self _ _ y _ (HF3.out.rd.ext ((Ext.alloc (Ext.rfl_ _) _).trans (X34.out.trans (by with_reducible (repeat (first | exact Ext.rfl_ _ | assumption | refine Ext.drew ?_ | refine Ext.drewN ?_ _ | refine Ext.alloc ?_ _ | refine Ext.trans ?_ (by assumption))))))) (HR4.out.ext (X23.out.trans ((Ext.alloc (Ext.rfl_ _) _).trans (X34.out.trans (by with_reducible (repeat (first | exact Ext.rfl_ _ | assumption | refine Ext.drew ?_ | refine Ext.drewN ?_ _ | refine Ext.alloc ?_ _ | refine Ext.trans ?_ (by assumption))))))))).mono ?_
      rintro e w5 ⟨rfl, hw5⟩
      have X4B := Lib.hid (show Ext (w4.alloc (.cells #[.slice A4 n4 c4, .int .i64 y.seq, .int .i64 y.kind, .slice B4 m4 d4] 40)) w5 from hw5)
      have X35 := Lib.hid (X34.out.trans ((Ext.alloc (Ext.rfl_ _) _).trans hw5))
      have HBX := Lib.hid (X35.out.blk HB3.out)
      have HBY := Lib.hid (X4B.out.blk HB4.out)
      have X25 := Lib.hid (X23.out.trans ((Ext.alloc (Ext.rfl_ _) _).trans X35.out))
      have HV5 := Lib.hid (OwnB.s (HP3.out.ext ((Ext.alloc (Ext.rfl_ _) _).trans X35.out)))
      have hnv : ∀ q, (Value.slice B3 m3 d3).ownBlock = some q → w2.heap.size ≤ q ∧ q < w3.heap.size := fun q hq => HP3.out.out.lt q hq
      have HNV := Lib.hid hnv
      clear hw5 hnv q0 q1 q2 q3 f0 f1 f2 f3 p0 p1 p2 p3 g0 g1 g2 g3
      go_wp2_with fail
      refine (num_any _ _).mono ?_
      rintro e w6 ⟨rfl, hw6⟩
      rw [← hw6]
      clear hw6
      go_wp2
      go_loopw [14] (fun i wq => ∃ j : Nat, i = .int .i64 j ∧ j ≤ m3 ∧ Hid (w5.grownBy wq (Value.slice B3 m3 d3).ownBlock) ∧ Hid (OwnS wq w2.heap.size (.slice B3 m3 d3))) (fun i _ => m3 - (intOf i).toNat)
      case atStart => exact ⟨0, rfl, Nat.zero_le _, Lib.hid (World.grownBy.refl _ _), HV5⟩
      case round =>
        obtain ⟨j, rfl, hj, hg, hp⟩ := hrel
        have hbx := blk_row HBX.out hg.out (fun e => by have := (HNV.out _ e).2; omega)
        obtain ⟨g0, g1, g2, g3, h0, h1, h2, h3⟩ := cells4 hbx
        clear hbx
        by_cases c1 : (j : Int) < (m3 : Int)
        · obtain ⟨q, b, cs, fr, rfl, hgb, hcell, hfro, _⟩ := hp.out.at_ (show j < m3 by omega)
          obtain ⟨b', hb'⟩ := xor1 b
          have HB' := Lib.hid hb'
          clear hb'
          go_wp2
          go_still_tail 10, (by kernel_rfl)
          go_wp2
          go_roundw
          case rel =>
            exact ⟨j + 1, by go_num, by omega, Lib.hid (grownBy_drew (grownBy_set (show w5.grownBy wr (some q) from hg.out) j _)), Lib.hid ((hp.out.set b' _ (by rw [HB'.out])).ext (Ext.drew (Ext.rfl_ _)))⟩
          case measure => simp [intOf]; omega
        · have X2Z := Lib.hid (X25.out.grown hg.out (fun q e => (HNV.out q e).1))
          have HBZ := Lib.hid (blk_row HBY.out hg.out (fun e => by have := (HNV.out _ e).2; have := X34.out.size; simp at this; omega))
          clear hg hp
          go_wp2_with fail
          refine (skget_any g h L B m d k sq wr (HF.out.s.ext X2Z.out) (HK.out.ext (X2.out.trans X2Z.out)) hmd hm).mono ?_
          rintro e w7 ⟨⟨v7, rfl, hf7⟩, hw7⟩
          rw [← HY.out] at hf7
          rw [← HZ.out]
          have HF7 := Lib.hid hf7.rd
          obtain ⟨A7, n7, c7, B7, m7, d7, rfl, _⟩ := hf7.rd
          have HB7 := Lib.hid (blk1 w7 (.cells #[.slice A7 n7 c7, .int .i64 y.seq, .int .i64 y.kind, .slice B7 m7 d7] 40))
          have XZ7 := Lib.hid hw7
          clear hf7 hw7
          obtain ⟨q0, q1, q2, q3, f0, f1, f2, f3⟩ := box4 HB7.out (Ext.rfl_ _)
          obtain ⟨p0, p1, p2, p3, u0, u1, u2, u3⟩ := cells4 (((XZ7.out.trans ((Ext.alloc (Ext.rfl_ _) (.cells #[.slice A7 n7 c7, .int .i64 y.seq, .int .i64 y.kind, .slice B7 m7 d7] 40)))).blk HBZ.out))
          go_wp2_with fail
          refine (rsame_self _ _ y _ (HF7.out.ext (Ext.alloc (Ext.rfl_ _) _)) (HR4.out.ext (X2Z.out.trans (XZ7.out.trans (Ext.alloc (Ext.rfl_ _) _))))).mono ?_
          rintro e w8 ⟨rfl, hw8⟩
          go_wp2_with fail
          refine (known_any _).mono ?_
          rintro e w9 ⟨rfl, hw9⟩
          go_wp2
          go_ret
          exact ⟨rfl, X2.out.trans (X2Z.out.trans (XZ7.out.trans (by with_reducible (repeat (first | exact Ext.rfl_ _ | assumption | refine Ext.drew ?_ | refine Ext.drewN ?_ _ | refine Ext.alloc ?_ _ | refine Ext.trans ?_ (by assumption))))))⟩
  · have hf' : (decide (n ≤ 200) && !decide (200000 < wt xs)) = false := by simpa using hf
    have HFW := Lib.hid hf'
    clear hf hf'
    go_enter Try.func5, Try.ntmps5
    go_wp2_with fail
    refine (few_any A n c xs _ (HL.out.ext (by with_reducible (repeat (first | exact Ext.rfl_ _ | assumption | refine Ext.drew ?_ | refine Ext.drewN ?_ _ | refine Ext.alloc ?_ _ | refine Ext.trans ?_ (by assumption)))))).mono ?_
    rintro e w1 ⟨rfl, hw1⟩
    rw [HFW.out]
    go_wp2_with fail
    refine (known_any _).mono ?_
    rintro e w2 ⟨rfl, hw2⟩
    go_wp2
    go_ret
    exact ⟨rfl, (by with_reducible (repeat (first | exact Ext.rfl_ _ | assumption | refine Ext.drew ?_ | refine Ext.drewN ?_ _ | refine Ext.alloc ?_ _ | refine Ext.trans ?_ (by assumption))))⟩


end Go.Proofs.Ytddaagldelcbeaa
