/- The walk of SkipCopies. Conditions: what comes in reads. -/
import Derived.Test.YtddaagldelcbeaaKnow6
import Derived.Test.YtddaagldelcbeaaFill
import Derived.Test.YtddaagldelcbeaaSkC
namespace Go.Proofs.Ytddaagldelcbeaa
set_option linter.unusedSimpArgs false
set_option linter.unusedVariables false
open Go.RowKit Go.Shelf

theorem drop_all (xs : List Ent) : (xs.dropWhile fun y => decide (cmpK y.key [] < 0)) = xs := by
  cases xs with
  | nil => rfl
  | cons x xs =>
    have h := cmpK_anti [] x.key
    have h2 := cmpK_nil x.key
    have h3 : ¬ cmpK x.key [] < 0 := by
      rw [h, h2]
      split <;> omega
    rw [List.dropWhile_cons_of_neg (by simpa using h3)]

/-- What fill leaves. -/
theorem FilI.facts {w w' : World} {xs : List Ent} {g h n : Nat} {L : List Nd} {A' : Option Addr} {n' c' : Nat} (hl : xs.length = n) (F : FilI w xs g h n L A' n' c' w') : putAll xs = L.map Nd.x ∧ n' = L.length ∧ RdL w' A' n' (L.map Nd.x) ∧ (∀ x ∈ L.map Nd.x, mayE x = true) ∧ n' ≤ n := by
  have e : xs.take n = xs := by rw [← hl, List.take_length]
  have h1 := F.e
  rw [e] at h1
  have h2 := F.r.rdl
  rw [e, ← h1] at h2
  have h3 := h2.1
  rw [List.length_map] at h3
  refine ⟨h1.symm, h3.symm, h2, fun x hx => ?_, by have := F.len; omega⟩
  obtain ⟨nd, hm, rfl⟩ := List.mem_map.1 hx
  exact F.s.may nd hm

theorem goesAll_any (g h : Nat) (L : List Nd) (A' : Option Addr) (n' c' : Nat) (most : Int) (w w2 : World) (s : SkL w2 g h L)
    (hx : Ext ((w.alloc (.cells #[.pointer (some ⟨g, 0, none⟩)] 28)).alloc (.cells #[.slice none 0 0] 22)) w2) (hw : RdL w2 A' n' (L.map Nd.x)) :
    Calls Try.prog 18 #[.func (.func 42) #[] #[.pointer (some ⟨w.heap.size, 0, none⟩), .pointer (some ⟨w.heap.size + 1, 0, none⟩)], .slice A' n' c', .int .i64 most] w2 fun e w' => e = .returned (.bool true) ∧ Ext w2 w' :=
  goesFrom_any g h L none 0 0 [] A' n' c' most w w2 s (Rd.nil _ _) hx (by rw [drop_all]; exact hw)


theorem rdl_one {w : World} {A : Option Addr} {n c : Nat} {B : Option Addr} {m d : Nat} {x : Ent} (h : RdE w (.agg #[.slice A n c, .int .i64 x.seq, .int .i64 x.kind, .slice B m d]) x) :
    RdL (w.alloc (.cells #[.slice A n c, .int .i64 x.seq, .int .i64 x.kind, .slice B m d] 40)) (some ⟨w.heap.size, 0, none⟩) 1 [x] := by
  refine ⟨rfl, by decide, fun _ => ⟨w.heap.size, 0, rfl, fun k hk => ?_⟩⟩
  have hk0 : k = 0 := by simp at hk; exact hk
  subst hk0
  obtain ⟨q0, q1, q2, q3, _, _, _, _⟩ := box4 (blk1 w (.cells #[.slice A n c, .int .i64 x.seq, .int .i64 x.kind, .slice B m d] 40)) (Ext.rfl_ _)
  exact ⟨A, n, c, B, m, d, ⟨q0, q1, q2, q3⟩, h.ext (Ext.alloc (Ext.rfl_ _) _)⟩

set_option maxRecDepth 100000 in
set_option maxHeartbeats 8000000 in
theorem copies_walk (A : Option Addr) (n c : Nat) (B : Option Addr) (m d : Nat) (v : Value) (xs ys : List Ent) (x : Ent) (w : World) (hl : RdL w A n xs) (hnc : n ≤ c) (hk : RdL w B m ys) (hmd : m ≤ d) (hx : RdE w v x) :
    Calls Try.prog 8 #[.slice A n c, .slice B m d, v] w fun e w' => e = .returned (.bool true) ∧ Ext w w' := by
  have HL := Lib.hid hl
  have HK := Lib.hid hk
  have HX := Lib.hid hx
  have hxl := hl.1
  have hyl := hk.1
  obtain ⟨A1, n1, c1, B1, m1, d1, rfl, _⟩ := hx
  clear hl hk
  by_cases hf : (decide (n ≤ 200) && !decide (200000 < wt xs)) = true
  · have hn200 : n ≤ 200 := by simp at hf; exact hf.1
    have HFW := Lib.hid hf
    clear hf
    by_cases hg : (decide (m ≤ 200) && !decide (200000 < wt ys)) = true
    · have hm200 : m ≤ 200 := by simp at hg; exact hg.1
      have HGW := Lib.hid hg
      clear hg
      go_enter Try.func8, Try.ntmps8
      go_wp2_with fail
      refine (few_any A n c xs _ (HL.out.ext (by with_reducible (repeat (first | exact Ext.rfl_ _ | assumption | refine Ext.drew ?_ | refine Ext.drewN ?_ _ | refine Ext.alloc ?_ _ | refine Ext.trans ?_ (by assumption)))))).mono ?_
      rintro e w1 ⟨rfl, hw1⟩
      rw [HFW.out]
      go_wp2_with fail
      refine (few_any B m d ys _ (HK.out.ext (by with_reducible (repeat (first | exact Ext.rfl_ _ | assumption | refine Ext.drew ?_ | refine Ext.drewN ?_ _ | refine Ext.alloc ?_ _ | refine Ext.trans ?_ (by assumption)))))).mono ?_
      rintro e w2 ⟨rfl, hw2⟩
      rw [HGW.out]
      have HBX := Lib.hid ((show Ext (w.alloc (.cells #[.slice A1 n1 c1, .int .i64 x.seq, .int .i64 x.kind, .slice B1 m1 d1] 40)) w2 from (by with_reducible (repeat (first | exact Ext.rfl_ _ | assumption | refine Ext.drew ?_ | refine Ext.drewN ?_ _ | refine Ext.alloc ?_ _ | refine Ext.trans ?_ (by assumption))))).blk (blk1 w (.cells #[.slice A1 n1 c1, .int .i64 x.seq, .int .i64 x.kind, .slice B1 m1 d1] 40)))
      obtain ⟨q0, q1, q2, q3, f0, f1, f2, f3⟩ := box4 HBX.out (Ext.rfl_ _)
      have X2 := Lib.hid (show Ext w w2 from (by with_reducible (repeat (first | exact Ext.rfl_ _ | assumption | refine Ext.drew ?_ | refine Ext.drewN ?_ _ | refine Ext.alloc ?_ _ | refine Ext.trans ?_ (by assumption)))))
      clear hw1 hw2
      go_wp2_with fail
      refine (few_any _ 1 1 [x] _ (rdl_one (HX.out.ext X2.out))).mono ?_
      rintro e w3 ⟨rfl, hw3⟩
      have X3 := Lib.hid (X2.out.trans (show Ext w2 w3 from (by with_reducible (repeat (first | exact Ext.rfl_ _ | assumption | refine Ext.drew ?_ | refine Ext.drewN ?_ _ | refine Ext.alloc ?_ _ | refine Ext.trans ?_ (by assumption))))))
      have HB3 := Lib.hid ((show Ext w2 w3 from (by with_reducible (repeat (first | exact Ext.rfl_ _ | assumption | refine Ext.drew ?_ | refine Ext.drewN ?_ _ | refine Ext.alloc ?_ _ | refine Ext.trans ?_ (by assumption))))).blk HBX.out)
      clear hw3 q0 q1 q2 q3 f0 f1 f2 f3
      by_cases hq : (decide (1 ≤ 200) && !decide (200000 < wt [x])) = true
      · rw [hq]
        clear hq
        go_wp2_with fail
        refine (fill_any A n c xs _ (HL.out.ext (X3.out.trans (by with_reducible (repeat (first | exact Ext.rfl_ _ | assumption | refine Ext.drew ?_ | refine Ext.drewN ?_ _ | refine Ext.alloc ?_ _ | refine Ext.trans ?_ (by assumption)))))) hnc (by omega)).mono ?_
        rintro e w4 ⟨g, h, L, A', n', c', rfl, hF⟩
        obtain ⟨f1, rfl, f3, f4, f5⟩ := hF.facts hxl
        have HF := Lib.hid hF
        have HR := Lib.hid f3
        have hnc2 := hF.nc
        have X34 := Lib.hid hF.ext
        clear hF f1 f3 f4
        go_wp2_with fail
        refine (fill_any B m d ys _ (HK.out.ext (X3.out.trans (X34.out.trans (by with_reducible (repeat (first | exact Ext.rfl_ _ | assumption | refine Ext.drew ?_ | refine Ext.drewN ?_ _ | refine Ext.alloc ?_ _ | refine Ext.trans ?_ (by assumption))))))) hmd (by omega)).mono ?_
        rintro e w5 ⟨g2, h2, L2, A2, n2, c2, rfl, hF2⟩
        obtain ⟨f1, rfl, f3, f4, f6⟩ := hF2.facts hyl
        have HF2 := Lib.hid hF2
        have HR2 := Lib.hid f3
        have hnc3 := hF2.nc
        have X45 := Lib.hid hF2.ext
        clear hF2 f1 f3 f4
        go_wp2_with fail
        refine (sksame_any g h g2 h2 L L2 _ (HF.out.s.ext X45.out) HF2.out.s).mono ?_
        rintro e w6 ⟨rfl, hw6⟩
        obtain ⟨b, hb⟩ : ∃ b, b = decide (L.map Nd.x = L2.map Nd.x) := ⟨_, rfl⟩
        rw [← hb]
        have HB := Lib.hid hb
        have X56 := Lib.hid hw6
        clear hw6 hb
        go_wp2_with fail
        refine (rsameL_any A' L.length c' A2 L2.length c2 (L.map Nd.x) (L2.map Nd.x) _ (HR.out.ext (X45.out.trans (X56.out.trans (by with_reducible (repeat (first | exact Ext.rfl_ _ | assumption | refine Ext.drew ?_ | refine Ext.drewN ?_ _ | refine Ext.alloc ?_ _ | refine Ext.trans ?_ (by assumption))))))) (HR2.out.ext (X56.out.trans (by with_reducible (repeat (first | exact Ext.rfl_ _ | assumption | refine Ext.drew ?_ | refine Ext.drewN ?_ _ | refine Ext.alloc ?_ _ | refine Ext.trans ?_ (by assumption))))))).mono ?_
        rintro e w7 ⟨rfl, hw7⟩
        rw [← HB.out]
        have X67 := Lib.hid hw7
        have hbb : (b == b) = true := by simp
        clear hw7
        go_wp2_with fail
        have X47 := Lib.hid (X45.out.trans (X56.out.trans X67.out))
        refine (sksame_any g h g h L L _ (HF.out.s.ext X47.out) (HF.out.s.ext X47.out)).mono ?_
        rintro e w8 ⟨rfl, hw8⟩
        rw [show decide (L.map Nd.x = L.map Nd.x) = true from decide_eq_true rfl]
        have X78 := Lib.hid hw8
        clear hw8
        go_wp2_with fail
        refine (skcopy_any g h L _ (HF.out.s.ext (X47.out.trans (X78.out.trans (by with_reducible (repeat (first | exact Ext.rfl_ _ | assumption | refine Ext.drew ?_ | refine Ext.drewN ?_ _ | refine Ext.alloc ?_ _ | refine Ext.trans ?_ (by assumption))))))) (by omega)).mono ?_
        rintro e w9 ⟨g3, h3, L3, rfl, he3, hs3, hw9, hT3⟩
        have X49 := Lib.hid (X47.out.trans (X78.out.trans (show Ext w8 w9 from (by with_reducible (repeat (first | exact Ext.rfl_ _ | assumption | refine Ext.drew ?_ | refine Ext.drewN ?_ _ | refine Ext.alloc ?_ _ | refine Ext.trans ?_ (by assumption)))))))
        have HS3 := Lib.hid hs3
        have HE3 := Lib.hid he3
        have hl3 : L3.length = L.length := by have := congrArg List.length he3; simpa using this
        have hx89 : Ext w8 w9 := (by with_reducible (repeat (first | exact Ext.rfl_ _ | assumption | refine Ext.drew ?_ | refine Ext.drewN ?_ _ | refine Ext.alloc ?_ _ | refine Ext.trans ?_ (by assumption))))
        have hT8 : ∀ b, skT g3 h3 L3 b → w8.heap.size ≤ b := fun b hb => Nat.le_trans (Nat.le_refl _) (hT3 b hb)
        have HT8 := Lib.hid hT8
        have X89 := Lib.hid hx89
        clear hs3 he3 hw9 hT3 hT8 hx89
        go_wp2_with fail
        refine (sksame_any g3 h3 g h L3 L _ HS3.out (HF.out.s.ext X49.out)).mono ?_
        rintro e wa ⟨rfl, hwa⟩
        rw [show decide (L3.map Nd.x = L.map Nd.x) = true from decide_eq_true HE3.out]
        have X9a := Lib.hid hwa
        clear hwa
        obtain ⟨q0, q1, q2, q3, f0, f1, f2, f3⟩ := box4 (X34.out.trans (X49.out.trans X9a.out) |>.blk HB3.out) (Ext.rfl_ _)
        go_wp2_with fail
        refine (skput_any g3 h3 L3 _ x _ (HS3.out.ext X9a.out) (HX.out.ext (X3.out.trans (X34.out.trans (X49.out.trans X9a.out)))) (by omega)).mono ?_
        rintro e wb ⟨rfl, L5, hL5, hs5, hk5, _, _⟩
        have x8b : Ext w8 wb := hk5.ext_of (X89.out.trans X9a.out) (fun k hk h => by have := HT8.out k h; omega)
        have X4b := Lib.hid (X47.out.trans (X78.out.trans x8b))
        have HS5 := Lib.hid hs5
        rw [HE3.out] at hL5
        have HL5 := Lib.hid hL5
        obtain ⟨p, hp⟩ : ∃ p, p = insP (L3.map Nd.x) x := ⟨_, rfl⟩
        rw [← hp]
        clear hs5 hk5 hL5 q0 q1 q2 q3 f0 f1 f2 f3 x8b hp
        obtain ⟨q0, q1, q2, q3, f0, f1, f2, f3⟩ := box4 (X34.out.trans X4b.out |>.blk HB3.out) (Ext.rfl_ _)
        have hrq := HF.out.r.ext X4b.out
        rw [← HF.out.e] at hrq
        have HRQ := Lib.hid hrq
        clear hrq
        go_wp2_with fail
        refine (rput_any _ A' L.length c' (L.map Nd.x) _ x _ HRQ.out hnc2 (HX.out.ext (X3.out.trans (X34.out.trans X4b.out))) (Nat.le_trans (show L.length + 1 ≤ 1000 by omega) (by decide))).mono ?_
        rintro e wc ⟨A6, n6, c6, rfl, _, hr6, hwc⟩
        have hr6' := hr6.rdl
        rw [← HL5.out] at hr6'
        have HR6 := Lib.hid hr6'
        have Xbc := Lib.hid hwc
        obtain ⟨p6, hp6⟩ : ∃ p, p = insP (L.map Nd.x) x := ⟨_, rfl⟩
        rw [← hp6]
        have X4c := Lib.hid (X4b.out.trans Xbc.out)
        clear hr6 hr6' hwc hp6 q0 q1 q2 q3 f0 f1 f2 f3
        go_wp2_with fail
        refine (from_any g none 0 0 _).mono ?_
        rintro e wd ⟨rfl, hwd⟩
        have Xcd : Ext wc wd := by rw [hwd]; exact (by with_reducible (repeat (first | exact Ext.rfl_ _ | assumption | refine Ext.drew ?_ | refine Ext.drewN ?_ _ | refine Ext.alloc ?_ _ | refine Ext.trans ?_ (by assumption))))
        have HWD := Lib.hid hwd
        clear hwd
        go_wp2_with fail
        refine (goesAll_any g h L A' L.length c' 0 wc wd ((HF.out.s.ext X4c.out).ext Xcd) (by rw [HWD.out]; exact Ext.rfl_ _) ((HR.out.ext X4c.out).ext Xcd)).mono ?_
        rintro e we ⟨rfl, hwe⟩
        go_wp2_with fail
        refine (from_any g3 none 0 0 _).mono ?_
        rintro e wf ⟨rfl, hwf⟩
        have Xef : Ext we wf := by rw [hwf]; exact (by with_reducible (repeat (first | exact Ext.rfl_ _ | assumption | refine Ext.drew ?_ | refine Ext.drewN ?_ _ | refine Ext.alloc ?_ _ | refine Ext.trans ?_ (by assumption))))
        have HWF := Lib.hid hwf
        clear hwf
        have Xcf := Lib.hid (Xcd.trans (Ext.trans hwe Xef))
        go_wp2_with fail
        refine (goesAll_any g3 h3 L5 A6 n6 c6 0 we wf ((HS5.out.ext Xbc.out).ext Xcf.out) (by rw [HWF.out]; exact Ext.rfl_ _) (HR6.out.ext Xcf.out)).mono ?_
        rintro e wg ⟨rfl, hwg⟩
        have X4g := Lib.hid (X4c.out.trans (Xcf.out.trans hwg))
        clear hwe hwg Xcd Xef
        go_wp2_with fail
        refine (known_any _).mono ?_
        rintro e wh ⟨rfl, hwh⟩
        go_wp2
        go_ret
        exact ⟨rfl, X3.out.trans (X34.out.trans (X4g.out.trans (by with_reducible (repeat (first | exact Ext.rfl_ _ | assumption | refine Ext.drew ?_ | refine Ext.drewN ?_ _ | refine Ext.alloc ?_ _ | refine Ext.trans ?_ (by assumption))))))⟩
      · have hq' : (decide (1 ≤ 200) && !decide (200000 < wt [x])) = false := by simpa using hq
        rw [hq']
        clear hq hq'
        go_wp2_with fail
        refine (known_any _).mono ?_
        rintro e w4 ⟨rfl, hw4⟩
        go_wp2
        go_ret
        exact ⟨rfl, X3.out.trans (by with_reducible (repeat (first | exact Ext.rfl_ _ | assumption | refine Ext.drew ?_ | refine Ext.drewN ?_ _ | refine Ext.alloc ?_ _ | refine Ext.trans ?_ (by assumption))))⟩
    · have hg' : (decide (m ≤ 200) && !decide (200000 < wt ys)) = false := by simpa using hg
      have HGW := Lib.hid hg'
      clear hg hg'
      go_enter Try.func8, Try.ntmps8
      go_wp2_with fail
      refine (few_any A n c xs _ (HL.out.ext (by with_reducible (repeat (first | exact Ext.rfl_ _ | assumption | refine Ext.drew ?_ | refine Ext.drewN ?_ _ | refine Ext.alloc ?_ _ | refine Ext.trans ?_ (by assumption)))))).mono ?_
      rintro e w1 ⟨rfl, hw1⟩
      rw [HFW.out]
      go_wp2_with fail
      refine (few_any B m d ys _ (HK.out.ext (by with_reducible (repeat (first | exact Ext.rfl_ _ | assumption | refine Ext.drew ?_ | refine Ext.drewN ?_ _ | refine Ext.alloc ?_ _ | refine Ext.trans ?_ (by assumption)))))).mono ?_
      rintro e w2 ⟨rfl, hw2⟩
      rw [HGW.out]
      go_wp2_with fail
      refine (known_any _).mono ?_
      rintro e w3 ⟨rfl, hw3⟩
      go_wp2
      go_ret
      exact ⟨rfl, (by with_reducible (repeat (first | exact Ext.rfl_ _ | assumption | refine Ext.drew ?_ | refine Ext.drewN ?_ _ | refine Ext.alloc ?_ _ | refine Ext.trans ?_ (by assumption))))⟩
  · have hf' : (decide (n ≤ 200) && !decide (200000 < wt xs)) = false := by simpa using hf
    have HFW := Lib.hid hf'
    clear hf hf'
    go_enter Try.func8, Try.ntmps8
    go_wp2_with fail
    refine (few_any A n c xs _ (HL.out.ext (by with_reducible (repeat (first | exact Ext.rfl_ _ | assumption | refine Ext.drew ?_ | refine Ext.drewN ?_ _ | refine Ext.alloc ?_ _ | refine Ext.trans ?_ (by assumption)))))).mono ?_
    rintro e w1 ⟨rfl, hw1⟩
    rw [HFW.out]
    go_wp2_with fail
    refine (known_any _).mono ?_
    rintro e w2 ⟨rfl, hw2⟩
    go_wp2
    go_ret
    exact ⟨rfl, (by with_reducible (repeat (first | exact Ext.rfl_ _ | assumption | refine Ext.drew ?_ | refine Ext.drewN ?_ _ | refine Ext.alloc ?_ _ | refine Ext.trans ?_ (by assumption))))⟩

end Go.Proofs.Ytddaagldelcbeaa
