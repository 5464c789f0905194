/- The law's own known is true. Conditions: none. -/
import Derived.Test.YtmmoopioiheleaaMgW
import Derived.Test.YtmmoopioiheleaaMgY
namespace Go.Proofs.Ytmmoopioiheleaa
set_option linter.unusedSimpArgs false
set_option linter.unusedVariables false
open Go.RowKit

set_option maxRecDepth 100000 in
set_option maxHeartbeats 8000000 in
theorem known_any (w : World) : Calls Try.prog 5 #[] w fun e w' => e = .returned (.bool true) ∧ Ext w w' := by
  go_enter Try.func5, Try.ntmps5
  go_wp2_with fail
  refine (lgone_any 97 97 6 _ rfl).mono ?_
  rintro e w1 ⟨b1, rfl, r1, hw1⟩
  go_wp2_with fail
  refine (lput_any 97 97 5 _ rfl).mono ?_
  rintro e w2 ⟨b2, rfl, r2, hw2⟩
  go_wp2_with fail
  refine (lput_any 97 97 1 _ rfl).mono ?_
  rintro e w3 ⟨b3, rfl, r3, hw3⟩
  go_wp2_with fail
  refine (lput_any 98 98 2 _ rfl).mono ?_
  rintro e w4 ⟨b4, rfl, r4, hw4⟩
  go_wp2_with fail
  refine (lput_any 99 99 3 _ rfl).mono ?_
  rintro e w5 ⟨b5, rfl, r5, hw5⟩
  have hra : RdL (w5.alloc (.cells #[.slice (some ⟨b1, 0, none⟩) 1 1, .int .i64 6, .int .i64 2, .slice none 0 0, .slice (some ⟨b2, 0, none⟩) 1 1, .int .i64 5, .int .i64 1, .slice none 0 0, .slice (some ⟨b3, 0, none⟩) 1 1, .int .i64 1, .int .i64 1, .slice none 0 0, .slice (some ⟨b4, 0, none⟩) 1 1, .int .i64 2, .int .i64 1, .slice none 0 0, .slice (some ⟨b5, 0, none⟩) 1 1, .int .i64 3, .int .i64 1, .slice none 0 0] 37)) (some ⟨w5.heap.size, 0, none⟩) 5 kAll :=
    rdl_row (w := w5) 37 (hs := [hK b1, hK b2, hK b3, hK b4, hK b5]) (xs := kAll) rfl (by decide) (fun k h1 h2 => by
      match k, h1 with
      | 0, _ => exact r1.ext (hw2.trans (hw3.trans (hw4.trans hw5)))
      | 1, _ => exact r2.ext (hw3.trans (hw4.trans hw5))
      | 2, _ => exact r3.ext (hw4.trans hw5)
      | 3, _ => exact r4.ext hw5
      | 4, _ => exact r5)
  have X5 := Lib.hid (hw1.trans (hw2.trans (hw3.trans (hw4.trans hw5))))
  obtain ⟨wa, hwa⟩ : ∃ wa, wa = w5.alloc (.cells #[.slice (some ⟨b1, 0, none⟩) 1 1, .int .i64 6, .int .i64 2, .slice none 0 0, .slice (some ⟨b2, 0, none⟩) 1 1, .int .i64 5, .int .i64 1, .slice none 0 0, .slice (some ⟨b3, 0, none⟩) 1 1, .int .i64 1, .int .i64 1, .slice none 0 0, .slice (some ⟨b4, 0, none⟩) 1 1, .int .i64 2, .int .i64 1, .slice none 0 0, .slice (some ⟨b5, 0, none⟩) 1 1, .int .i64 3, .int .i64 1, .slice none 0 0] 37) := ⟨_, rfl⟩
  rw [← hwa] at hra
  have XA := Lib.hid (X5.out.trans (show Ext w5 wa from by rw [hwa]; exact Ext.alloc (Ext.rfl_ _) _))
  have HRA := Lib.hid hra
  have xaw : Ext w5 wa := by rw [hwa]; exact Ext.alloc (Ext.rfl_ _) _
  have HR1 := Lib.hid (r1.ext ((hw2.trans (hw3.trans (hw4.trans hw5))).trans xaw))
  have HR2 := Lib.hid (r2.ext ((hw3.trans (hw4.trans hw5)).trans xaw))
  have HR4 := Lib.hid (r4.ext (hw5.trans xaw))
  have HR5 := Lib.hid (r5.ext xaw)
  clear r1 r2 r3 r4 r5 hra hw1 hw2 hw3 hw4 hw5 X5 xaw
  have hblk : wa.heap[w5.heap.size]? = some (.cells #[.slice (some ⟨b1, 0, none⟩) 1 1, .int .i64 6, .int .i64 2, .slice none 0 0, .slice (some ⟨b2, 0, none⟩) 1 1, .int .i64 5, .int .i64 1, .slice none 0 0, .slice (some ⟨b3, 0, none⟩) 1 1, .int .i64 1, .int .i64 1, .slice none 0 0, .slice (some ⟨b4, 0, none⟩) 1 1, .int .i64 2, .int .i64 1, .slice none 0 0, .slice (some ⟨b5, 0, none⟩) 1 1, .int .i64 3, .int .i64 1, .slice none 0 0] 37 (0, 0)) := by rw [hwa]; exact heap_alloc_new _ _
  have HBLK := Lib.hid hblk
  obtain ⟨ga, hga⟩ : ∃ ga, ga = w5.heap.size := ⟨_, rfl⟩
  clear hblk
  go_wp2_with fail
  rw [← hwa, ← hga]
  rw [← hga] at HRA HBLK
  clear hwa hga
  refine (lput_any 97 97 5 _ rfl).mono ?_
  rintro e w6 ⟨b6, rfl, r6, hw6⟩
  go_wp2_with fail
  refine (lput_any 98 98 2 _ rfl).mono ?_
  rintro e w7 ⟨b7, rfl, r7, hw7⟩
  have hrb : RdL (w7.alloc (.cells #[.slice (some ⟨b6, 0, none⟩) 1 1, .int .i64 5, .int .i64 1, .slice none 0 0, .slice (some ⟨b7, 0, none⟩) 1 1, .int .i64 2, .int .i64 1, .slice none 0 0] 37)) (some ⟨w7.heap.size, 0, none⟩) 2 [e1 97 5 1, e1 98 2 1] :=
    rdl_row (w := w7) 37 (hs := [hK b6, hK b7]) (xs := [e1 97 5 1, e1 98 2 1]) rfl (by decide) (fun k h1 h2 => by
      match k, h1 with
      | 0, _ => exact r6.ext hw7
      | 1, _ => exact r7)
  obtain ⟨wb, hwb⟩ : ∃ wb, wb = w7.alloc (.cells #[.slice (some ⟨b6, 0, none⟩) 1 1, .int .i64 5, .int .i64 1, .slice none 0 0, .slice (some ⟨b7, 0, none⟩) 1 1, .int .i64 2, .int .i64 1, .slice none 0 0] 37) := ⟨_, rfl⟩
  rw [← hwb] at hrb
  have XB := Lib.hid (XA.out.trans ((hw6.trans hw7).trans (show Ext w7 wb from by rw [hwb]; exact Ext.alloc (Ext.rfl_ _) _)))
  have XAB := Lib.hid ((hw6.trans hw7).trans (show Ext w7 wb from by rw [hwb]; exact Ext.alloc (Ext.rfl_ _) _))
  have HRB := Lib.hid hrb
  clear r6 r7 hrb hw6 hw7
  go_wp2_with fail
  rw [← hwb]
  clear hwb
  refine (of_any _ 2 2 wb).mono ?_
  rintro e wc ⟨rfl, hwc⟩
  have hbc : Ext wb wc := by rw [hwc]; exact Ext.alloc (Ext.rfl_ _) _
  have hgc := (cnew wb (.slice (some ⟨w7.heap.size, 0, none⟩) 2 2) 22).1
  rw [← hwc] at hgc
  have HI1 := Lib.hid (of_iter _ 2 2 wb.heap.size _ wb wc HRB.out (Nat.le_refl _) hbc hgc)
  have XBC := Lib.hid hbc
  clear hwc hbc hgc
  go_wp2_with fail
  refine (lgone_any 97 97 6 _ rfl).mono ?_
  rintro e w8 ⟨b8, rfl, r8, hw8⟩
  go_wp2_with fail
  refine (lput_any 97 97 1 _ rfl).mono ?_
  rintro e w9 ⟨b9, rfl, r9, hw9⟩
  go_wp2_with fail
  refine (lput_any 99 99 3 _ rfl).mono ?_
  rintro e w10 ⟨b10, rfl, r10, hw10⟩
  have hrd : RdL (w10.alloc (.cells #[.slice (some ⟨b8, 0, none⟩) 1 1, .int .i64 6, .int .i64 2, .slice none 0 0, .slice (some ⟨b9, 0, none⟩) 1 1, .int .i64 1, .int .i64 1, .slice none 0 0, .slice (some ⟨b10, 0, none⟩) 1 1, .int .i64 3, .int .i64 1, .slice none 0 0] 37)) (some ⟨w10.heap.size, 0, none⟩) 3 [e1 97 6 2, e1 97 1 1, e1 99 3 1] :=
    rdl_row (w := w10) 37 (hs := [hK b8, hK b9, hK b10]) (xs := [e1 97 6 2, e1 97 1 1, e1 99 3 1]) rfl (by decide) (fun k h1 h2 => by
      match k, h1 with
      | 0, _ => exact r8.ext (hw9.trans hw10)
      | 1, _ => exact r9.ext hw10
      | 2, _ => exact r10)
  obtain ⟨wd, hwd⟩ : ∃ wd, wd = w10.alloc (.cells #[.slice (some ⟨b8, 0, none⟩) 1 1, .int .i64 6, .int .i64 2, .slice none 0 0, .slice (some ⟨b9, 0, none⟩) 1 1, .int .i64 1, .int .i64 1, .slice none 0 0, .slice (some ⟨b10, 0, none⟩) 1 1, .int .i64 3, .int .i64 1, .slice none 0 0] 37) := ⟨_, rfl⟩
  rw [← hwd] at hrd
  have XCD := Lib.hid ((hw8.trans (hw9.trans hw10)).trans (show Ext w10 wd from by rw [hwd]; exact Ext.alloc (Ext.rfl_ _) _))
  have HRD := Lib.hid hrd
  clear r8 r9 r10 hrd hw8 hw9 hw10
  go_wp2_with fail
  rw [← hwd]
  clear hwd
  refine (of_any _ 3 3 wd).mono ?_
  rintro e we ⟨rfl, hwe⟩
  have hde : Ext wd we := by rw [hwe]; exact Ext.alloc (Ext.rfl_ _) _
  have hgd := (cnew wd (.slice (some ⟨w10.heap.size, 0, none⟩) 3 3) 22).1
  rw [← hwe] at hgd
  have HI2 := Lib.hid (of_iter _ 3 3 wd.heap.size _ wd we HRD.out (Nat.le_refl _) hde hgd)
  have XCE := Lib.hid (XCD.out.trans hde)
  clear hwe hde hgd
  obtain ⟨wf, hwf⟩ : ∃ wf, wf = we.alloc (.cells #[.func (.func 22) #[] #[.pointer (some ⟨wb.heap.size, 0, none⟩)], .func (.func 22) #[] #[.pointer (some ⟨wd.heap.size, 0, none⟩)]] 28) := ⟨_, rfl⟩
  have hef : Ext we wf := by rw [hwf]; exact Ext.alloc (Ext.rfl_ _) _
  have hfb := heap_alloc_new we (.cells #[.func (.func 22) #[] #[.pointer (some ⟨wb.heap.size, 0, none⟩)], .func (.func 22) #[] #[.pointer (some ⟨wd.heap.size, 0, none⟩)]] 28)
  rw [← hwf] at hfb
  have HF0 : Hid (wf.cell? ⟨we.heap.size, 0, none⟩ = some (.func (.func 22) #[] #[.pointer (some ⟨wb.heap.size, 0, none⟩)])) := Lib.hid (by unfold World.cell?; simp only [hfb]; rfl)
  have HF1 : Hid (wf.cell? ⟨we.heap.size, 1, none⟩ = some (.func (.func 22) #[] #[.pointer (some ⟨wd.heap.size, 0, none⟩)])) := Lib.hid (by unfold World.cell?; simp only [hfb]; rfl)
  have XEF := Lib.hid hef
  clear hef hfb
  go_wp2_with fail
  rw [← hwf]
  clear hwf
  refine (join_any _ 2 2 wf).mono ?_
  rintro e wg ⟨rfl, hwg⟩
  have hfg : Ext wf wg := by rw [hwg]; exact Ext.alloc (Ext.rfl_ _) _
  have hgf := (cnew wf (.slice (some ⟨we.heap.size, 0, none⟩) 2 2) 54).1
  rw [← hwg] at hgf
  have XFG := Lib.hid hfg
  have hfn : FnS wg we.heap.size [(22, #[.pointer (some ⟨wb.heap.size, 0, none⟩)]), (22, #[.pointer (some ⟨wd.heap.size, 0, none⟩)])] [[e1 97 5 1, e1 98 2 1], [e1 97 6 2, e1 97 1 1, e1 99 3 1]] := ⟨rfl, fun i h1 h2 => by
    match i, h1 with
    | 0, _ => exact ⟨hfg.keeps _ _ _ HF0.out, HI1.out.ext ((XCE.out.trans XEF.out).trans hfg), (show (2 : Nat) ≤ 1000000 by decide)⟩
    | 1, _ => exact ⟨hfg.keeps _ _ _ HF1.out, HI2.out.ext (XEF.out.trans hfg), (show (3 : Nat) ≤ 1000000 by decide)⟩⟩
  have HJN := Lib.hid (join_iter we.heap.size 2 2 wf.heap.size _ _ wg hfn rfl (by decide) (by decide) (Nat.le_refl _) hgf)
  clear hwg hfg hgf hfn
  go_wp2_with fail
  refine (listOf_any _ _ _ wg HJN.out (by rw [kJoin]; decide)).mono ?_
  rintro e wh ⟨vj, rfl, oj, hwh⟩
  rw [kJoin] at oj
  obtain ⟨Aj, nj, cj, rfl, _, rj, _⟩ := oj.formN (by decide)
  have XAH := Lib.hid ((XAB.out.trans XBC.out).trans ((XCE.out.trans XEF.out).trans (XFG.out.trans hwh)))
  have RJ := Lib.hid (show RdL wh Aj nj kAll from rj)
  have RAH := Lib.hid (HRA.out.ext XAH.out)
  clear oj rj hwh HJN HF0 HF1 HI1 HI2 HRB HRD XAB XBC XCD XCE XEF XFG XB
  go_wp2_with fail
  refine (of_any _ 5 5 wh).mono ?_
  rintro e wi ⟨rfl, hx1⟩
  have ho1 : Ext wh wi := by rw [hx1]; exact Ext.alloc (Ext.rfl_ _) _
  have hg1 := (cnew wh (.slice (some ⟨ga, 0, none⟩) 5 5) 22).1
  rw [← hx1] at hg1
  have HI3 := Lib.hid (of_iter _ 5 5 wh.heap.size _ wh wi RAH.out (Nat.le_refl _) ho1 hg1)
  have XO3 := Lib.hid ho1
  clear hx1 ho1 hg1
  go_wp2_with fail
  refine (keep_any _ _ 5 false wi).mono ?_
  rintro e wj ⟨rfl, ⟨hk1, hk2, hk3⟩, hx2⟩
  have HK3 := Lib.hid (keep_iter _ _ kAll 5 false _ _ _ wj (HI3.out.ext hx2) (by decide) (by decide) hk1 hk2 hk3)
  have XK3 := Lib.hid (XO3.out.trans hx2)
  clear hk1 hk2 hk3 hx2
  go_wp2_with fail
  refine (listOf_any _ _ _ wj HK3.out (by rw [kOne]; decide)).mono ?_
  rintro e wk ⟨v3, rfl, o3, hx3⟩
  rw [kOne] at o3
  obtain ⟨Ak3, nk3, ck3, rfl, _, rk3, _⟩ := o3.formN (by decide)
  have XL3 := Lib.hid (XK3.out.trans hx3)
  have RK3 := Lib.hid rk3
  clear o3 rk3 hx3 HK3 HI3 XO3 XK3
  have RAK := Lib.hid (RAH.out.ext XL3.out)
  have RJK := Lib.hid (RJ.out.ext XL3.out)
  go_wp2_with fail
  refine (of_any _ 5 5 wk).mono ?_
  rintro e wl ⟨rfl, hx1⟩
  have ho1 : Ext wk wl := by rw [hx1]; exact Ext.alloc (Ext.rfl_ _) _
  have hg1 := (cnew wk (.slice (some ⟨ga, 0, none⟩) 5 5) 22).1
  rw [← hx1] at hg1
  have HI4 := Lib.hid (of_iter _ 5 5 wk.heap.size _ wk wl RAK.out (Nat.le_refl _) ho1 hg1)
  have XO4 := Lib.hid ho1
  clear hx1 ho1 hg1
  go_wp2_with fail
  refine (keep_any _ _ 9 true wl).mono ?_
  rintro e wm ⟨rfl, ⟨hk1, hk2, hk3⟩, hx2⟩
  have HK4 := Lib.hid (keep_iter _ _ kAll 9 true _ _ _ wm (HI4.out.ext hx2) (by decide) (by decide) hk1 hk2 hk3)
  have XK4 := Lib.hid (XO4.out.trans hx2)
  clear hk1 hk2 hk3 hx2
  go_wp2_with fail
  refine (listOf_any _ _ _ wm HK4.out (by rw [kTwo]; decide)).mono ?_
  rintro e wn ⟨v4, rfl, o4, hx3⟩
  rw [kTwo] at o4
  obtain ⟨Ak4, nk4, ck4, rfl, _, rk4, _⟩ := o4.formN (by decide)
  have XL4 := Lib.hid (XK4.out.trans hx3)
  have RK4 := Lib.hid rk4
  clear o4 rk4 hx3 HK4 HI4 XO4 XK4
  have RAN := Lib.hid (RAK.out.ext XL4.out)
  have RJN := Lib.hid (RJK.out.ext XL4.out)
  have RK3N := Lib.hid (RK3.out.ext XL4.out)
  go_wp2_with fail
  refine (of_any _ 5 5 wn).mono ?_
  rintro e wo ⟨rfl, hx1⟩
  have ho1 : Ext wn wo := by rw [hx1]; exact Ext.alloc (Ext.rfl_ _) _
  have hg1 := (cnew wn (.slice (some ⟨ga, 0, none⟩) 5 5) 22).1
  rw [← hx1] at hg1
  have HI5 := Lib.hid (of_iter _ 5 5 wn.heap.size _ wn wo RAN.out (Nat.le_refl _) ho1 hg1)
  have XO5 := Lib.hid ho1
  clear hx1 ho1 hg1
  go_wp2_with fail
  refine (seen_any _ _ 5 wo).mono ?_
  rintro e wp ⟨rfl, ⟨hk1, hk2⟩, hx2⟩
  have HSN := Lib.hid (seen_iter _ _ kAll 5 _ _ wp (HI5.out.ext hx2) (by decide) (by decide) hk1 hk2)
  have XK5 := Lib.hid (XO5.out.trans hx2)
  clear hk1 hk2 hx2
  go_wp2_with fail
  refine (pairs_any _ _ _ wp HSN.out (by rw [kSeen]; decide)).mono ?_
  rintro e wq ⟨v5, rfl, o5, hx3⟩
  rw [kSeen] at o5
  obtain ⟨gs, cs, As, ns, ds, rfl, hs0, hsr⟩ : ∃ gs cs As ns ds, v5 = .slice (some ⟨gs, 0, none⟩) 3 cs ∧ wq.cell? ⟨gs, 0, none⟩ = some (.slice As ns ds) ∧ Rd wq As ns [97] := o5.head
  have XL5 := Lib.hid (XK5.out.trans hx3)
  clear o5 hx3 HSN HI5 XO5 XK5
  have XAQ := Lib.hid (XAH.out.trans (XL3.out.trans (XL4.out.trans XL5.out)))
  have RJQ := Lib.hid (RJN.out.ext XL5.out)
  have RAQ := Lib.hid (RAN.out.ext XL5.out)
  have R3Q := Lib.hid (RK3N.out.ext XL5.out)
  have R4Q := Lib.hid (RK4.out.ext XL5.out)
  have H4 : Hid (∀ W, Ext wa W → RdL (W.alloc (.cells #[.slice (some ⟨b1, 0, none⟩) 1 1, .int .i64 6, .int .i64 2, .slice none 0 0, .slice (some ⟨b2, 0, none⟩) 1 1, .int .i64 5, .int .i64 1, .slice none 0 0, .slice (some ⟨b4, 0, none⟩) 1 1, .int .i64 2, .int .i64 1, .slice none 0 0, .slice (some ⟨b5, 0, none⟩) 1 1, .int .i64 3, .int .i64 1, .slice none 0 0] 37)) (some ⟨W.heap.size, 0, none⟩) 4 [e1 97 6 2, e1 97 5 1, e1 98 2 1, e1 99 3 1]) := Lib.hid fun W K =>
    rdl_row (w := W) 37 (hs := [hK b1, hK b2, hK b4, hK b5]) (xs := [e1 97 6 2, e1 97 5 1, e1 98 2 1, e1 99 3 1]) rfl (by decide) (fun k h1 h2 => by
      match k, h1 with
      | 0, _ => exact HR1.out.ext K
      | 1, _ => exact HR2.out.ext K
      | 2, _ => exact HR4.out.ext K
      | 3, _ => exact HR5.out.ext K)
  have H2 : Hid (∀ W, Ext wa W → RdL (W.alloc (.cells #[.slice (some ⟨b4, 0, none⟩) 1 1, .int .i64 2, .int .i64 1, .slice none 0 0, .slice (some ⟨b5, 0, none⟩) 1 1, .int .i64 3, .int .i64 1, .slice none 0 0] 37)) (some ⟨W.heap.size, 0, none⟩) 2 [e1 98 2 1, e1 99 3 1]) := Lib.hid fun W K =>
    rdl_row (w := W) 37 (hs := [hK b4, hK b5]) (xs := [e1 98 2 1, e1 99 3 1]) rfl (by decide) (fun k h1 h2 => by
      match k, h1 with
      | 0, _ => exact HR4.out.ext K
      | 1, _ => exact HR5.out.ext K)
  have HS : Hid (∀ W, Ext wq W → (W.cell? ⟨ga, 0, none⟩ = some (.slice (some ⟨b1, 0, none⟩) 1 1) ∧ W.cell? ⟨ga, 1, none⟩ = some (.int .i64 6) ∧ W.cell? ⟨ga, 2, none⟩ = some (.int .i64 2) ∧ W.cell? ⟨ga, 3, none⟩ = some (.slice none 0 0)) ∧ (W.cell? ⟨ga, 4, none⟩ = some (.slice (some ⟨b2, 0, none⟩) 1 1) ∧ W.cell? ⟨ga, 5, none⟩ = some (.int .i64 5) ∧ W.cell? ⟨ga, 6, none⟩ = some (.int .i64 1) ∧ W.cell? ⟨ga, 7, none⟩ = some (.slice none 0 0)) ∧ (W.cell? ⟨ga, 12, none⟩ = some (.slice (some ⟨b4, 0, none⟩) 1 1) ∧ W.cell? ⟨ga, 13, none⟩ = some (.int .i64 2) ∧ W.cell? ⟨ga, 14, none⟩ = some (.int .i64 1) ∧ W.cell? ⟨ga, 15, none⟩ = some (.slice none 0 0)) ∧ (W.cell? ⟨ga, 16, none⟩ = some (.slice (some ⟨b5, 0, none⟩) 1 1) ∧ W.cell? ⟨ga, 17, none⟩ = some (.int .i64 3) ∧ W.cell? ⟨ga, 18, none⟩ = some (.int .i64 1) ∧ W.cell? ⟨ga, 19, none⟩ = some (.slice none 0 0)) ∧ W.cell? ⟨gs, 0, none⟩ = some (.slice As ns ds) ∧ (convert 23 9 (.slice As ns ds)).run Try.prog W = .ok (.string ⟨#[97]⟩) W) := Lib.hid fun W K => by
    have hb := (XAQ.out.trans K).blk HBLK.out
    have hc : ∀ j, W.cell? ⟨ga, j, none⟩ = (#[.slice (some ⟨b1, 0, none⟩) 1 1, .int .i64 6, .int .i64 2, .slice none 0 0, .slice (some ⟨b2, 0, none⟩) 1 1, .int .i64 5, .int .i64 1, .slice none 0 0, .slice (some ⟨b3, 0, none⟩) 1 1, .int .i64 1, .int .i64 1, .slice none 0 0, .slice (some ⟨b4, 0, none⟩) 1 1, .int .i64 2, .int .i64 1, .slice none 0 0, .slice (some ⟨b5, 0, none⟩) 1 1, .int .i64 3, .int .i64 1, .slice none 0 0] : Array Value)[j]? := fun j => by unfold World.cell?; simp only [hb]; rfl
    exact ⟨⟨hc 0, hc 1, hc 2, hc 3⟩, ⟨hc 4, hc 5, hc 6, hc 7⟩, ⟨hc 12, hc 13, hc 14, hc 15⟩, ⟨hc 16, hc 17, hc 18, hc 19⟩, K.keeps _ _ _ hs0, (hsr.ext K).str ds 23 5 9 Try.underlying23 Try.underlying5 Try.underlying9⟩
  clear hs0 hsr
  go_wp2_with fail
  refine wp_region_held_drew (S := (fun W => (W.cell? ⟨ga, 0, none⟩ = some (.slice (some ⟨b1, 0, none⟩) 1 1) ∧ W.cell? ⟨ga, 1, none⟩ = some (.int .i64 6) ∧ W.cell? ⟨ga, 2, none⟩ = some (.int .i64 2) ∧ W.cell? ⟨ga, 3, none⟩ = some (.slice none 0 0)) ∧ (W.cell? ⟨ga, 4, none⟩ = some (.slice (some ⟨b2, 0, none⟩) 1 1) ∧ W.cell? ⟨ga, 5, none⟩ = some (.int .i64 5) ∧ W.cell? ⟨ga, 6, none⟩ = some (.int .i64 1) ∧ W.cell? ⟨ga, 7, none⟩ = some (.slice none 0 0)) ∧ (W.cell? ⟨ga, 12, none⟩ = some (.slice (some ⟨b4, 0, none⟩) 1 1) ∧ W.cell? ⟨ga, 13, none⟩ = some (.int .i64 2) ∧ W.cell? ⟨ga, 14, none⟩ = some (.int .i64 1) ∧ W.cell? ⟨ga, 15, none⟩ = some (.slice none 0 0)) ∧ (W.cell? ⟨ga, 16, none⟩ = some (.slice (some ⟨b5, 0, none⟩) 1 1) ∧ W.cell? ⟨ga, 17, none⟩ = some (.int .i64 3) ∧ W.cell? ⟨ga, 18, none⟩ = some (.int .i64 1) ∧ W.cell? ⟨ga, 19, none⟩ = some (.slice none 0 0)) ∧ W.cell? ⟨gs, 0, none⟩ = some (.slice As ns ds) ∧ (convert 23 9 (.slice As ns ds)).run Try.prog W = .ok (.string ⟨#[97]⟩) W)) (by kernel_rfl) (by (try dsimp only); exact HS.out _ (by with_reducible (repeat (first | exact Ext.rfl_ _ | assumption | refine Ext.drew ?_ | refine Ext.drewN ?_ _ | refine Ext.alloc ?_ _ | refine Ext.trans ?_ (by assumption))))) (fun hHeld => ?_)
  refine wpAnyH_take (i := 0) (oi := ({ dst := some 36, op := Go.Op.move (Go.Operand.tmp 2), type := 22, pos := "law.go:69", after := #[], guard := none } : Go.Oper)) (v := ?v1) rfl (by kernel_rfl) (by kernel_rfl) (by kernel_rfl) (fun _ _ _ h => h) (Or.inl ⟨by rfl, ?hy1⟩) (by assumption) ?rest1
  case hy1 => (intro w hSw; (try dsimp only at hSw); go_simp; (try with_reducible rfl))
  (try simp only [Act.put, List.getElem_toArray, List.getElem_cons_zero, List.getElem_cons_succ, List.setIfInBounds_toArray, List.set_cons_zero, List.set_cons_succ])
  refine wpAnyH_take (i := 1) (oi := ({ dst := some 37, op := Go.Op.move (Go.Operand.tmp 1), type := 22, pos := "law.go:69", after := #[], guard := none } : Go.Oper)) (v := ?v2) rfl (by kernel_rfl) (by kernel_rfl) (by kernel_rfl) (fun _ _ _ h => h) (Or.inl ⟨by rfl, ?hy2⟩) (by assumption) ?rest2
  case hy2 => (intro w hSw; (try dsimp only at hSw); go_simp; (try with_reducible rfl))
  (try simp only [Act.put, List.getElem_toArray, List.getElem_cons_zero, List.getElem_cons_succ, List.setIfInBounds_toArray, List.set_cons_zero, List.set_cons_succ])
  refine wpAnyH_ready (rs := [2]) (by kernel_rfl) (by simp) ?_
  refine AllReadyH.cons (o := ({ dst := some 38, op := Go.Op.call { callee := Go.Callee.value (Go.Operand.func 6), args := #[Go.Operand.tmp 36, Go.Operand.tmp 37], argTypes := #[22, 22] }, type := 4, pos := "law.go:69", after := #[{ on := 0, ground := Go.Ground.data }, { on := 1, ground := Go.Ground.data }], guard := none } : Go.Oper)) rfl (fun K hK => ?_) AllReadyH.nil
  go_simp
  (first | (go_at_call_of 6 (Value.slice Ak3 nk3 ck3); go_must (refine (same11_any Ak3 nk3 ck3 _ 4 4 _ _ _ (R3Q.out.ext (by with_reducible (repeat (first | exact Ext.rfl_ _ | assumption | refine Ext.drew ?_ | refine Ext.drewN ?_ _ | refine Ext.alloc ?_ _ | refine Ext.trans ?_ (by assumption))))) (H4.out _ (XAQ.out.trans (by with_reducible (repeat (first | exact Ext.rfl_ _ | assumption | refine Ext.drew ?_ | refine Ext.drewN ?_ _ | refine Ext.alloc ?_ _ | refine Ext.trans ?_ (by assumption))))))).mono ?_); rintro e wy ⟨rfl, hwy⟩; rw [decide_eq_true rfl]) | (go_at_call_of 6 (Value.slice Ak4 nk4 ck4); go_must (refine (same11_any Ak4 nk4 ck4 _ 2 2 _ _ _ (R4Q.out.ext (by with_reducible (repeat (first | exact Ext.rfl_ _ | assumption | refine Ext.drew ?_ | refine Ext.drewN ?_ _ | refine Ext.alloc ?_ _ | refine Ext.trans ?_ (by assumption))))) (H2.out _ (XAQ.out.trans (by with_reducible (repeat (first | exact Ext.rfl_ _ | assumption | refine Ext.drew ?_ | refine Ext.drewN ?_ _ | refine Ext.alloc ?_ _ | refine Ext.trans ?_ (by assumption))))))).mono ?_); rintro e wz ⟨rfl, hwz⟩; rw [decide_eq_true rfl]) | (go_at_call 6; go_must (refine (same11_any Aj nj cj _ 5 5 kAll kAll _ (RJQ.out.ext (by with_reducible (repeat (first | exact Ext.rfl_ _ | assumption | refine Ext.drew ?_ | refine Ext.drewN ?_ _ | refine Ext.alloc ?_ _ | refine Ext.trans ?_ (by assumption))))) (RAQ.out.ext (by with_reducible (repeat (first | exact Ext.rfl_ _ | assumption | refine Ext.drew ?_ | refine Ext.drewN ?_ _ | refine Ext.alloc ?_ _ | refine Ext.trans ?_ (by assumption)))))).mono ?_); rintro e wx ⟨rfl, hwx⟩; rw [decide_eq_true rfl]))
  (try (go_wp2_with fail))
  refine hK.out _ _ (by (try dsimp only); exact HS.out _ (by with_reducible (repeat (first | exact Ext.rfl_ _ | assumption | refine Ext.drew ?_ | refine Ext.drewN ?_ _ | refine Ext.alloc ?_ _ | refine Ext.trans ?_ (by assumption))))) (fun hHeld => ?_)
  clear hK K
  (try simp only [Act.put, List.getElem_toArray, List.getElem_cons_zero, List.getElem_cons_succ, List.setIfInBounds_toArray, List.set_cons_zero, List.set_cons_succ])
  refine wpAnyH_take (i := 3) (oi := ({ dst := some 39, op := Go.Op.move (Go.Operand.tmp 38), type := 4, pos := "law.go:69", after := #[{ on := 2, ground := Go.Ground.data }, { on := 2, ground := Go.Ground.chain }], guard := none } : Go.Oper)) (v := ?v3) rfl (by kernel_rfl) (by kernel_rfl) (by kernel_rfl) (fun _ _ _ h => h) (Or.inl ⟨by rfl, ?hy3⟩) (by assumption) ?rest3
  case hy3 => (intro w hSw; (try dsimp only at hSw); go_simp; (try with_reducible rfl))
  (try simp only [Act.put, List.getElem_toArray, List.getElem_cons_zero, List.getElem_cons_succ, List.setIfInBounds_toArray, List.set_cons_zero, List.set_cons_succ])
  refine wpAnyH_take (i := 4) (oi := ({ dst := some 40, op := Go.Op.move (Go.Operand.tmp 3), type := 22, pos := "law.go:69", after := #[{ on := 3, ground := Go.Ground.guard }], guard := some (3, true) } : Go.Oper)) (v := ?v4) rfl (by kernel_rfl) (by kernel_rfl) (by kernel_rfl) (fun _ _ _ h => h) (Or.inl ⟨by rfl, ?hy4⟩) (by assumption) ?rest4
  case hy4 => (intro w hSw; (try dsimp only at hSw); go_simp; (try with_reducible rfl))
  (try simp only [Act.put, List.getElem_toArray, List.getElem_cons_zero, List.getElem_cons_succ, List.setIfInBounds_toArray, List.set_cons_zero, List.set_cons_succ])
  refine wpAnyH_take (i := 5) (oi := ({ dst := some 41, op := Go.Op.move (Go.Operand.tmp 1), type := 22, pos := "law.go:69", after := #[{ on := 3, ground := Go.Ground.guard }], guard := some (3, true) } : Go.Oper)) (v := ?v5) rfl (by kernel_rfl) (by kernel_rfl) (by kernel_rfl) (fun _ _ _ h => h) (Or.inl ⟨by rfl, ?hy5⟩) (by assumption) ?rest5
  case hy5 => (intro w hSw; (try dsimp only at hSw); go_simp; (try with_reducible rfl))
  (try simp only [Act.put, List.getElem_toArray, List.getElem_cons_zero, List.getElem_cons_succ, List.setIfInBounds_toArray, List.set_cons_zero, List.set_cons_succ])
  refine wpAnyH_take (i := 6) (oi := ({ dst := some 42, op := Go.Op.indexAddr 22 (Go.Operand.tmp 41) (Go.Operand.const (Go.Value.int Go.IntKind.i64 0)), type := 0, pos := "law.go:69", after := #[{ on := 5, ground := Go.Ground.data }, { on := 3, ground := Go.Ground.guard }], guard := some (3, true) } : Go.Oper)) (v := ?v6) rfl (by kernel_rfl) (by kernel_rfl) (by kernel_rfl) (fun _ _ _ h => h) (Or.inl ⟨by rfl, ?hy6⟩) (by assumption) ?rest6
  case hy6 => (intro w hSw; (try dsimp only at hSw); go_simp; (try with_reducible rfl))
  (try simp only [Act.put, List.getElem_toArray, List.getElem_cons_zero, List.getElem_cons_succ, List.setIfInBounds_toArray, List.set_cons_zero, List.set_cons_succ])
  refine wpAnyH_take (i := 7) (oi := ({ dst := some 43, op := Go.Op.load 37 (Go.Operand.tmp 42), type := 37, pos := "law.go:69", after := #[{ on := 6, ground := Go.Ground.data }, { on := 3, ground := Go.Ground.guard }], guard := some (3, true) } : Go.Oper)) (v := ?v7) rfl (by kernel_rfl) (by kernel_rfl) (by kernel_rfl) (fun _ _ _ h => h) (Or.inl ⟨by rfl, ?hy7⟩) (by assumption) ?rest7
  case hy7 => (intro w hSw; (try dsimp only at hSw); go_simp; (try with_reducible rfl))
  (try simp only [Act.put, List.getElem_toArray, List.getElem_cons_zero, List.getElem_cons_succ, List.setIfInBounds_toArray, List.set_cons_zero, List.set_cons_succ])
  refine wpAnyH_take (i := 8) (oi := ({ dst := some 44, op := Go.Op.move (Go.Operand.tmp 1), type := 22, pos := "law.go:69", after := #[{ on := 3, ground := Go.Ground.guard }], guard := some (3, true) } : Go.Oper)) (v := ?v8) rfl (by kernel_rfl) (by kernel_rfl) (by kernel_rfl) (fun _ _ _ h => h) (Or.inl ⟨by rfl, ?hy8⟩) (by assumption) ?rest8
  case hy8 => (intro w hSw; (try dsimp only at hSw); go_simp; (try with_reducible rfl))
  (try simp only [Act.put, List.getElem_toArray, List.getElem_cons_zero, List.getElem_cons_succ, List.setIfInBounds_toArray, List.set_cons_zero, List.set_cons_succ])
  refine wpAnyH_take (i := 9) (oi := ({ dst := some 45, op := Go.Op.indexAddr 22 (Go.Operand.tmp 44) (Go.Operand.const (Go.Value.int Go.IntKind.i64 1)), type := 0, pos := "law.go:69", after := #[{ on := 8, ground := Go.Ground.data }, { on := 3, ground := Go.Ground.guard }], guard := some (3, true) } : Go.Oper)) (v := ?v9) rfl (by kernel_rfl) (by kernel_rfl) (by kernel_rfl) (fun _ _ _ h => h) (Or.inl ⟨by rfl, ?hy9⟩) (by assumption) ?rest9
  case hy9 => (intro w hSw; (try dsimp only at hSw); go_simp; (try with_reducible rfl))
  (try simp only [Act.put, List.getElem_toArray, List.getElem_cons_zero, List.getElem_cons_succ, List.setIfInBounds_toArray, List.set_cons_zero, List.set_cons_succ])
  refine wpAnyH_take (i := 10) (oi := ({ dst := some 46, op := Go.Op.load 37 (Go.Operand.tmp 45), type := 37, pos := "law.go:69", after := #[{ on := 9, ground := Go.Ground.data }, { on := 3, ground := Go.Ground.guard }], guard := some (3, true) } : Go.Oper)) (v := ?v10) rfl (by kernel_rfl) (by kernel_rfl) (by kernel_rfl) (fun _ _ _ h => h) (Or.inl ⟨by rfl, ?hy10⟩) (by assumption) ?rest10
  case hy10 => (intro w hSw; (try dsimp only at hSw); go_simp; (try with_reducible rfl))
  (try simp only [Act.put, List.getElem_toArray, List.getElem_cons_zero, List.getElem_cons_succ, List.setIfInBounds_toArray, List.set_cons_zero, List.set_cons_succ])
  refine wpAnyH_take (i := 11) (oi := ({ dst := some 47, op := Go.Op.move (Go.Operand.tmp 1), type := 22, pos := "law.go:69", after := #[{ on := 3, ground := Go.Ground.guard }], guard := some (3, true) } : Go.Oper)) (v := ?v11) rfl (by kernel_rfl) (by kernel_rfl) (by kernel_rfl) (fun _ _ _ h => h) (Or.inl ⟨by rfl, ?hy11⟩) (by assumption) ?rest11
  case hy11 => (intro w hSw; (try dsimp only at hSw); go_simp; (try with_reducible rfl))
  (try simp only [Act.put, List.getElem_toArray, List.getElem_cons_zero, List.getElem_cons_succ, List.setIfInBounds_toArray, List.set_cons_zero, List.set_cons_succ])
  refine wpAnyH_take (i := 12) (oi := ({ dst := some 48, op := Go.Op.indexAddr 22 (Go.Operand.tmp 47) (Go.Operand.const (Go.Value.int Go.IntKind.i64 3)), type := 0, pos := "law.go:69", after := #[{ on := 11, ground := Go.Ground.data }, { on := 3, ground := Go.Ground.guard }], guard := some (3, true) } : Go.Oper)) (v := ?v12) rfl (by kernel_rfl) (by kernel_rfl) (by kernel_rfl) (fun _ _ _ h => h) (Or.inl ⟨by rfl, ?hy12⟩) (by assumption) ?rest12
  case hy12 => (intro w hSw; (try dsimp only at hSw); go_simp; (try with_reducible rfl))
  (try simp only [Act.put, List.getElem_toArray, List.getElem_cons_zero, List.getElem_cons_succ, List.setIfInBounds_toArray, List.set_cons_zero, List.set_cons_succ])
  refine wpAnyH_take (i := 13) (oi := ({ dst := some 49, op := Go.Op.load 37 (Go.Operand.tmp 48), type := 37, pos := "law.go:69", after := #[{ on := 12, ground := Go.Ground.data }, { on := 3, ground := Go.Ground.guard }], guard := some (3, true) } : Go.Oper)) (v := ?v13) rfl (by kernel_rfl) (by kernel_rfl) (by kernel_rfl) (fun _ _ _ h => h) (Or.inl ⟨by rfl, ?hy13⟩) (by assumption) ?rest13
  case hy13 => (intro w hSw; (try dsimp only at hSw); go_simp; (try with_reducible rfl))
  (try simp only [Act.put, List.getElem_toArray, List.getElem_cons_zero, List.getElem_cons_succ, List.setIfInBounds_toArray, List.set_cons_zero, List.set_cons_succ])
  refine wpAnyH_take (i := 14) (oi := ({ dst := some 50, op := Go.Op.move (Go.Operand.tmp 1), type := 22, pos := "law.go:69", after := #[{ on := 3, ground := Go.Ground.guard }], guard := some (3, true) } : Go.Oper)) (v := ?v14) rfl (by kernel_rfl) (by kernel_rfl) (by kernel_rfl) (fun _ _ _ h => h) (Or.inl ⟨by rfl, ?hy14⟩) (by assumption) ?rest14
  case hy14 => (intro w hSw; (try dsimp only at hSw); go_simp; (try with_reducible rfl))
  (try simp only [Act.put, List.getElem_toArray, List.getElem_cons_zero, List.getElem_cons_succ, List.setIfInBounds_toArray, List.set_cons_zero, List.set_cons_succ])
  refine wpAnyH_take (i := 15) (oi := ({ dst := some 51, op := Go.Op.indexAddr 22 (Go.Operand.tmp 50) (Go.Operand.const (Go.Value.int Go.IntKind.i64 4)), type := 0, pos := "law.go:69", after := #[{ on := 14, ground := Go.Ground.data }, { on := 3, ground := Go.Ground.guard }], guard := some (3, true) } : Go.Oper)) (v := ?v15) rfl (by kernel_rfl) (by kernel_rfl) (by kernel_rfl) (fun _ _ _ h => h) (Or.inl ⟨by rfl, ?hy15⟩) (by assumption) ?rest15
  case hy15 => (intro w hSw; (try dsimp only at hSw); go_simp; (try with_reducible rfl))
  (try simp only [Act.put, List.getElem_toArray, List.getElem_cons_zero, List.getElem_cons_succ, List.setIfInBounds_toArray, List.set_cons_zero, List.set_cons_succ])
  refine wpAnyH_take (i := 16) (oi := ({ dst := some 52, op := Go.Op.load 37 (Go.Operand.tmp 51), type := 37, pos := "law.go:69", after := #[{ on := 15, ground := Go.Ground.data }, { on := 3, ground := Go.Ground.guard }], guard := some (3, true) } : Go.Oper)) (v := ?v16) rfl (by kernel_rfl) (by kernel_rfl) (by kernel_rfl) (fun _ _ _ h => h) (Or.inl ⟨by rfl, ?hy16⟩) (by assumption) ?rest16
  case hy16 => (intro w hSw; (try dsimp only at hSw); go_simp; (try with_reducible rfl))
  (try simp only [Act.put, List.getElem_toArray, List.getElem_cons_zero, List.getElem_cons_succ, List.setIfInBounds_toArray, List.set_cons_zero, List.set_cons_succ])
  refine wpAnyH_ready (rs := [17]) (by kernel_rfl) (by simp) ?_
  refine AllReadyH.cons (o := ({ dst := some 53, op := Go.Op.buildSlice 22 4 #[(0, Go.Operand.tmp 43), (1, Go.Operand.tmp 46), (2, Go.Operand.tmp 49), (3, Go.Operand.tmp 52)], type := 22, pos := "law.go:69", after := #[{ on := 7, ground := Go.Ground.data }, { on := 10, ground := Go.Ground.data }, { on := 13, ground := Go.Ground.data }, { on := 16, ground := Go.Ground.data }, { on := 3, ground := Go.Ground.guard }], guard := some (3, true) } : Go.Oper)) rfl (fun K hK => ?_) AllReadyH.nil
  go_simp
  refine hK.out _ _ (by (try dsimp only); exact HS.out _ (by with_reducible (repeat (first | exact Ext.rfl_ _ | assumption | refine Ext.drew ?_ | refine Ext.drewN ?_ _ | refine Ext.alloc ?_ _ | refine Ext.trans ?_ (by assumption))))) (fun hHeld => ?_)
  clear hK K
  (try simp only [Act.put, List.getElem_toArray, List.getElem_cons_zero, List.getElem_cons_succ, List.setIfInBounds_toArray, List.set_cons_zero, List.set_cons_succ])
  refine wpAnyH_ready (rs := [18]) (by kernel_rfl) (by simp) ?_
  refine AllReadyH.cons (o := ({ dst := some 54, op := Go.Op.call { callee := Go.Callee.value (Go.Operand.func 6), args := #[Go.Operand.tmp 40, Go.Operand.tmp 53], argTypes := #[22, 22] }, type := 4, pos := "law.go:69", after := #[{ on := 4, ground := Go.Ground.data }, { on := 17, ground := Go.Ground.data }, { on := 3, ground := Go.Ground.chain }, { on := 3, ground := Go.Ground.guard }], guard := some (3, true) } : Go.Oper)) rfl (fun K hK => ?_) AllReadyH.nil
  go_simp
  (first | (go_at_call_of 6 (Value.slice Ak3 nk3 ck3); go_must (refine (same11_any Ak3 nk3 ck3 _ 4 4 _ _ _ (R3Q.out.ext (by with_reducible (repeat (first | exact Ext.rfl_ _ | assumption | refine Ext.drew ?_ | refine Ext.drewN ?_ _ | refine Ext.alloc ?_ _ | refine Ext.trans ?_ (by assumption))))) (H4.out _ (XAQ.out.trans (by with_reducible (repeat (first | exact Ext.rfl_ _ | assumption | refine Ext.drew ?_ | refine Ext.drewN ?_ _ | refine Ext.alloc ?_ _ | refine Ext.trans ?_ (by assumption))))))).mono ?_); rintro e wy ⟨rfl, hwy⟩; rw [decide_eq_true rfl]) | (go_at_call_of 6 (Value.slice Ak4 nk4 ck4); go_must (refine (same11_any Ak4 nk4 ck4 _ 2 2 _ _ _ (R4Q.out.ext (by with_reducible (repeat (first | exact Ext.rfl_ _ | assumption | refine Ext.drew ?_ | refine Ext.drewN ?_ _ | refine Ext.alloc ?_ _ | refine Ext.trans ?_ (by assumption))))) (H2.out _ (XAQ.out.trans (by with_reducible (repeat (first | exact Ext.rfl_ _ | assumption | refine Ext.drew ?_ | refine Ext.drewN ?_ _ | refine Ext.alloc ?_ _ | refine Ext.trans ?_ (by assumption))))))).mono ?_); rintro e wz ⟨rfl, hwz⟩; rw [decide_eq_true rfl]) | (go_at_call 6; go_must (refine (same11_any Aj nj cj _ 5 5 kAll kAll _ (RJQ.out.ext (by with_reducible (repeat (first | exact Ext.rfl_ _ | assumption | refine Ext.drew ?_ | refine Ext.drewN ?_ _ | refine Ext.alloc ?_ _ | refine Ext.trans ?_ (by assumption))))) (RAQ.out.ext (by with_reducible (repeat (first | exact Ext.rfl_ _ | assumption | refine Ext.drew ?_ | refine Ext.drewN ?_ _ | refine Ext.alloc ?_ _ | refine Ext.trans ?_ (by assumption)))))).mono ?_); rintro e wx ⟨rfl, hwx⟩; rw [decide_eq_true rfl]))
  (try (go_wp2_with fail))
  refine hK.out _ _ (by (try dsimp only); exact HS.out _ (by with_reducible (repeat (first | exact Ext.rfl_ _ | assumption | refine Ext.drew ?_ | refine Ext.drewN ?_ _ | refine Ext.alloc ?_ _ | refine Ext.trans ?_ (by assumption))))) (fun hHeld => ?_)
  clear hK K
  (try simp only [Act.put, List.getElem_toArray, List.getElem_cons_zero, List.getElem_cons_succ, List.setIfInBounds_toArray, List.set_cons_zero, List.set_cons_succ])
  refine wpAnyH_take (i := 19) (oi := ({ dst := some 55, op := Go.Op.pick (Go.Operand.tmp 39) (Go.Operand.tmp 54) (Go.Operand.const (Go.Value.bool false)), type := 4, pos := "law.go:69", after := #[{ on := 3, ground := Go.Ground.data }, { on := 18, ground := Go.Ground.data }], guard := none } : Go.Oper)) (v := ?v17) rfl (by kernel_rfl) (by kernel_rfl) (by kernel_rfl) (fun _ _ _ h => h) (Or.inl ⟨by rfl, ?hy17⟩) (by assumption) ?rest17
  case hy17 => (intro w hSw; (try dsimp only at hSw); go_simp; (try with_reducible rfl))
  (try simp only [Act.put, List.getElem_toArray, List.getElem_cons_zero, List.getElem_cons_succ, List.setIfInBounds_toArray, List.set_cons_zero, List.set_cons_succ])
  refine wpAnyH_take (i := 20) (oi := ({ dst := some 56, op := Go.Op.move (Go.Operand.tmp 55), type := 4, pos := "law.go:69", after := #[{ on := 19, ground := Go.Ground.data }, { on := 18, ground := Go.Ground.chain }], guard := none } : Go.Oper)) (v := ?v18) rfl (by kernel_rfl) (by kernel_rfl) (by kernel_rfl) (fun _ _ _ h => h) (Or.inl ⟨by rfl, ?hy18⟩) (by assumption) ?rest18
  case hy18 => (intro w hSw; (try dsimp only at hSw); go_simp; (try with_reducible rfl))
  (try simp only [Act.put, List.getElem_toArray, List.getElem_cons_zero, List.getElem_cons_succ, List.setIfInBounds_toArray, List.set_cons_zero, List.set_cons_succ])
  refine wpAnyH_take (i := 21) (oi := ({ dst := some 57, op := Go.Op.move (Go.Operand.tmp 4), type := 22, pos := "law.go:69", after := #[{ on := 20, ground := Go.Ground.guard }], guard := some (20, true) } : Go.Oper)) (v := ?v19) rfl (by kernel_rfl) (by kernel_rfl) (by kernel_rfl) (fun _ _ _ h => h) (Or.inl ⟨by rfl, ?hy19⟩) (by assumption) ?rest19
  case hy19 => (intro w hSw; (try dsimp only at hSw); go_simp; (try with_reducible rfl))
  (try simp only [Act.put, List.getElem_toArray, List.getElem_cons_zero, List.getElem_cons_succ, List.setIfInBounds_toArray, List.set_cons_zero, List.set_cons_succ])
  refine wpAnyH_take (i := 22) (oi := ({ dst := some 58, op := Go.Op.move (Go.Operand.tmp 1), type := 22, pos := "law.go:69", after := #[{ on := 20, ground := Go.Ground.guard }], guard := some (20, true) } : Go.Oper)) (v := ?v20) rfl (by kernel_rfl) (by kernel_rfl) (by kernel_rfl) (fun _ _ _ h => h) (Or.inl ⟨by rfl, ?hy20⟩) (by assumption) ?rest20
  case hy20 => (intro w hSw; (try dsimp only at hSw); go_simp; (try with_reducible rfl))
  (try simp only [Act.put, List.getElem_toArray, List.getElem_cons_zero, List.getElem_cons_succ, List.setIfInBounds_toArray, List.set_cons_zero, List.set_cons_succ])
  refine wpAnyH_take (i := 23) (oi := ({ dst := some 59, op := Go.Op.indexAddr 22 (Go.Operand.tmp 58) (Go.Operand.const (Go.Value.int Go.IntKind.i64 3)), type := 0, pos := "law.go:69", after := #[{ on := 22, ground := Go.Ground.data }, { on := 20, ground := Go.Ground.guard }], guard := some (20, true) } : Go.Oper)) (v := ?v21) rfl (by kernel_rfl) (by kernel_rfl) (by kernel_rfl) (fun _ _ _ h => h) (Or.inl ⟨by rfl, ?hy21⟩) (by assumption) ?rest21
  case hy21 => (intro w hSw; (try dsimp only at hSw); go_simp; (try with_reducible rfl))
  (try simp only [Act.put, List.getElem_toArray, List.getElem_cons_zero, List.getElem_cons_succ, List.setIfInBounds_toArray, List.set_cons_zero, List.set_cons_succ])
  refine wpAnyH_take (i := 24) (oi := ({ dst := some 60, op := Go.Op.load 37 (Go.Operand.tmp 59), type := 37, pos := "law.go:69", after := #[{ on := 23, ground := Go.Ground.data }, { on := 20, ground := Go.Ground.guard }], guard := some (20, true) } : Go.Oper)) (v := ?v22) rfl (by kernel_rfl) (by kernel_rfl) (by kernel_rfl) (fun _ _ _ h => h) (Or.inl ⟨by rfl, ?hy22⟩) (by assumption) ?rest22
  case hy22 => (intro w hSw; (try dsimp only at hSw); go_simp; (try with_reducible rfl))
  (try simp only [Act.put, List.getElem_toArray, List.getElem_cons_zero, List.getElem_cons_succ, List.setIfInBounds_toArray, List.set_cons_zero, List.set_cons_succ])
  refine wpAnyH_take (i := 25) (oi := ({ dst := some 61, op := Go.Op.move (Go.Operand.tmp 1), type := 22, pos := "law.go:69", after := #[{ on := 20, ground := Go.Ground.guard }], guard := some (20, true) } : Go.Oper)) (v := ?v23) rfl (by kernel_rfl) (by kernel_rfl) (by kernel_rfl) (fun _ _ _ h => h) (Or.inl ⟨by rfl, ?hy23⟩) (by assumption) ?rest23
  case hy23 => (intro w hSw; (try dsimp only at hSw); go_simp; (try with_reducible rfl))
  (try simp only [Act.put, List.getElem_toArray, List.getElem_cons_zero, List.getElem_cons_succ, List.setIfInBounds_toArray, List.set_cons_zero, List.set_cons_succ])
  refine wpAnyH_take (i := 26) (oi := ({ dst := some 62, op := Go.Op.indexAddr 22 (Go.Operand.tmp 61) (Go.Operand.const (Go.Value.int Go.IntKind.i64 4)), type := 0, pos := "law.go:69", after := #[{ on := 25, ground := Go.Ground.data }, { on := 20, ground := Go.Ground.guard }], guard := some (20, true) } : Go.Oper)) (v := ?v24) rfl (by kernel_rfl) (by kernel_rfl) (by kernel_rfl) (fun _ _ _ h => h) (Or.inl ⟨by rfl, ?hy24⟩) (by assumption) ?rest24
  case hy24 => (intro w hSw; (try dsimp only at hSw); go_simp; (try with_reducible rfl))
  (try simp only [Act.put, List.getElem_toArray, List.getElem_cons_zero, List.getElem_cons_succ, List.setIfInBounds_toArray, List.set_cons_zero, List.set_cons_succ])
  refine wpAnyH_take (i := 27) (oi := ({ dst := some 63, op := Go.Op.load 37 (Go.Operand.tmp 62), type := 37, pos := "law.go:69", after := #[{ on := 26, ground := Go.Ground.data }, { on := 20, ground := Go.Ground.guard }], guard := some (20, true) } : Go.Oper)) (v := ?v25) rfl (by kernel_rfl) (by kernel_rfl) (by kernel_rfl) (fun _ _ _ h => h) (Or.inl ⟨by rfl, ?hy25⟩) (by assumption) ?rest25
  case hy25 => (intro w hSw; (try dsimp only at hSw); go_simp; (try with_reducible rfl))
  (try simp only [Act.put, List.getElem_toArray, List.getElem_cons_zero, List.getElem_cons_succ, List.setIfInBounds_toArray, List.set_cons_zero, List.set_cons_succ])
  refine wpAnyH_ready (rs := [28]) (by kernel_rfl) (by simp) ?_
  refine AllReadyH.cons (o := ({ dst := some 64, op := Go.Op.buildSlice 22 2 #[(0, Go.Operand.tmp 60), (1, Go.Operand.tmp 63)], type := 22, pos := "law.go:69", after := #[{ on := 24, ground := Go.Ground.data }, { on := 27, ground := Go.Ground.data }, { on := 20, ground := Go.Ground.guard }], guard := some (20, true) } : Go.Oper)) rfl (fun K hK => ?_) AllReadyH.nil
  go_simp
  refine hK.out _ _ (by (try dsimp only); exact HS.out _ (by with_reducible (repeat (first | exact Ext.rfl_ _ | assumption | refine Ext.drew ?_ | refine Ext.drewN ?_ _ | refine Ext.alloc ?_ _ | refine Ext.trans ?_ (by assumption))))) (fun hHeld => ?_)
  clear hK K
  (try simp only [Act.put, List.getElem_toArray, List.getElem_cons_zero, List.getElem_cons_succ, List.setIfInBounds_toArray, List.set_cons_zero, List.set_cons_succ])
  refine wpAnyH_ready (rs := [29]) (by kernel_rfl) (by simp) ?_
  refine AllReadyH.cons (o := ({ dst := some 65, op := Go.Op.call { callee := Go.Callee.value (Go.Operand.func 6), args := #[Go.Operand.tmp 57, Go.Operand.tmp 64], argTypes := #[22, 22] }, type := 4, pos := "law.go:69", after := #[{ on := 21, ground := Go.Ground.data }, { on := 28, ground := Go.Ground.data }, { on := 20, ground := Go.Ground.chain }, { on := 20, ground := Go.Ground.guard }], guard := some (20, true) } : Go.Oper)) rfl (fun K hK => ?_) AllReadyH.nil
  go_simp
  (first | (go_at_call_of 6 (Value.slice Ak3 nk3 ck3); go_must (refine (same11_any Ak3 nk3 ck3 _ 4 4 _ _ _ (R3Q.out.ext (by with_reducible (repeat (first | exact Ext.rfl_ _ | assumption | refine Ext.drew ?_ | refine Ext.drewN ?_ _ | refine Ext.alloc ?_ _ | refine Ext.trans ?_ (by assumption))))) (H4.out _ (XAQ.out.trans (by with_reducible (repeat (first | exact Ext.rfl_ _ | assumption | refine Ext.drew ?_ | refine Ext.drewN ?_ _ | refine Ext.alloc ?_ _ | refine Ext.trans ?_ (by assumption))))))).mono ?_); rintro e wy ⟨rfl, hwy⟩; rw [decide_eq_true rfl]) | (go_at_call_of 6 (Value.slice Ak4 nk4 ck4); go_must (refine (same11_any Ak4 nk4 ck4 _ 2 2 _ _ _ (R4Q.out.ext (by with_reducible (repeat (first | exact Ext.rfl_ _ | assumption | refine Ext.drew ?_ | refine Ext.drewN ?_ _ | refine Ext.alloc ?_ _ | refine Ext.trans ?_ (by assumption))))) (H2.out _ (XAQ.out.trans (by with_reducible (repeat (first | exact Ext.rfl_ _ | assumption | refine Ext.drew ?_ | refine Ext.drewN ?_ _ | refine Ext.alloc ?_ _ | refine Ext.trans ?_ (by assumption))))))).mono ?_); rintro e wz ⟨rfl, hwz⟩; rw [decide_eq_true rfl]) | (go_at_call 6; go_must (refine (same11_any Aj nj cj _ 5 5 kAll kAll _ (RJQ.out.ext (by with_reducible (repeat (first | exact Ext.rfl_ _ | assumption | refine Ext.drew ?_ | refine Ext.drewN ?_ _ | refine Ext.alloc ?_ _ | refine Ext.trans ?_ (by assumption))))) (RAQ.out.ext (by with_reducible (repeat (first | exact Ext.rfl_ _ | assumption | refine Ext.drew ?_ | refine Ext.drewN ?_ _ | refine Ext.alloc ?_ _ | refine Ext.trans ?_ (by assumption)))))).mono ?_); rintro e wx ⟨rfl, hwx⟩; rw [decide_eq_true rfl]))
  (try (go_wp2_with fail))
  refine hK.out _ _ (by (try dsimp only); exact HS.out _ (by with_reducible (repeat (first | exact Ext.rfl_ _ | assumption | refine Ext.drew ?_ | refine Ext.drewN ?_ _ | refine Ext.alloc ?_ _ | refine Ext.trans ?_ (by assumption))))) (fun hHeld => ?_)
  clear hK K
  (try simp only [Act.put, List.getElem_toArray, List.getElem_cons_zero, List.getElem_cons_succ, List.setIfInBounds_toArray, List.set_cons_zero, List.set_cons_succ])
  refine wpAnyH_take (i := 30) (oi := ({ dst := some 66, op := Go.Op.pick (Go.Operand.tmp 56) (Go.Operand.tmp 65) (Go.Operand.const (Go.Value.bool false)), type := 4, pos := "law.go:69", after := #[{ on := 20, ground := Go.Ground.data }, { on := 29, ground := Go.Ground.data }], guard := none } : Go.Oper)) (v := ?v26) rfl (by kernel_rfl) (by kernel_rfl) (by kernel_rfl) (fun _ _ _ h => h) (Or.inl ⟨by rfl, ?hy26⟩) (by assumption) ?rest26
  case hy26 => (intro w hSw; (try dsimp only at hSw); go_simp; (try with_reducible rfl))
  (try simp only [Act.put, List.getElem_toArray, List.getElem_cons_zero, List.getElem_cons_succ, List.setIfInBounds_toArray, List.set_cons_zero, List.set_cons_succ])
  refine wpAnyH_take (i := 31) (oi := ({ dst := some 67, op := Go.Op.move (Go.Operand.tmp 66), type := 4, pos := "law.go:69", after := #[{ on := 30, ground := Go.Ground.data }, { on := 29, ground := Go.Ground.chain }], guard := none } : Go.Oper)) (v := ?v27) rfl (by kernel_rfl) (by kernel_rfl) (by kernel_rfl) (fun _ _ _ h => h) (Or.inl ⟨by rfl, ?hy27⟩) (by assumption) ?rest27
  case hy27 => (intro w hSw; (try dsimp only at hSw); go_simp; (try with_reducible rfl))
  (try simp only [Act.put, List.getElem_toArray, List.getElem_cons_zero, List.getElem_cons_succ, List.setIfInBounds_toArray, List.set_cons_zero, List.set_cons_succ])
  refine wpAnyH_take (i := 32) (oi := ({ dst := some 68, op := Go.Op.move (Go.Operand.tmp 5), type := 41, pos := "law.go:69", after := #[{ on := 31, ground := Go.Ground.guard }], guard := some (31, true) } : Go.Oper)) (v := ?v28) rfl (by kernel_rfl) (by kernel_rfl) (by kernel_rfl) (fun _ _ _ h => h) (Or.inl ⟨by rfl, ?hy28⟩) (by assumption) ?rest28
  case hy28 => (intro w hSw; (try dsimp only at hSw); go_simp; (try with_reducible rfl))
  (try simp only [Act.put, List.getElem_toArray, List.getElem_cons_zero, List.getElem_cons_succ, List.setIfInBounds_toArray, List.set_cons_zero, List.set_cons_succ])
  refine wpAnyH_take (i := 33) (oi := ({ dst := some 69, op := Go.Op.call { callee := Go.Callee.builtin Go.Builtin.len, args := #[Go.Operand.tmp 68], argTypes := #[41] }, type := 3, pos := "law.go:69", after := #[{ on := 32, ground := Go.Ground.data }, { on := 31, ground := Go.Ground.guard }], guard := some (31, true) } : Go.Oper)) (v := ?v29) rfl (by kernel_rfl) (by kernel_rfl) (by kernel_rfl) (fun _ _ _ h => h) (Or.inl ⟨by rfl, ?hy29⟩) (by assumption) ?rest29
  case hy29 => (intro w hSw; (try dsimp only at hSw); go_simp; (try with_reducible rfl))
  (try simp only [Act.put, List.getElem_toArray, List.getElem_cons_zero, List.getElem_cons_succ, List.setIfInBounds_toArray, List.set_cons_zero, List.set_cons_succ])
  refine wpAnyH_take (i := 34) (oi := ({ dst := some 70, op := Go.Op.binOp Go.BinOp.eql 3 (Go.Operand.tmp 69) (Go.Operand.const (Go.Value.int Go.IntKind.i64 3)) 3, type := 4, pos := "law.go:69", after := #[{ on := 33, ground := Go.Ground.data }, { on := 31, ground := Go.Ground.guard }], guard := some (31, true) } : Go.Oper)) (v := ?v30) rfl (by kernel_rfl) (by kernel_rfl) (by kernel_rfl) (fun _ _ _ h => h) (Or.inl ⟨by rfl, ?hy30⟩) (by assumption) ?rest30
  case hy30 => (intro w hSw; (try dsimp only at hSw); go_simp; (try with_reducible rfl))
  (try simp only [Act.put, List.getElem_toArray, List.getElem_cons_zero, List.getElem_cons_succ, List.setIfInBounds_toArray, List.set_cons_zero, List.set_cons_succ])
  refine wpAnyH_take (i := 35) (oi := ({ dst := some 71, op := Go.Op.pick (Go.Operand.tmp 67) (Go.Operand.tmp 70) (Go.Operand.const (Go.Value.bool false)), type := 4, pos := "law.go:69", after := #[{ on := 31, ground := Go.Ground.data }, { on := 34, ground := Go.Ground.data }], guard := none } : Go.Oper)) (v := ?v31) rfl (by kernel_rfl) (by kernel_rfl) (by kernel_rfl) (fun _ _ _ h => h) (Or.inl ⟨by rfl, ?hy31⟩) (by assumption) ?rest31
  case hy31 => (intro w hSw; (try dsimp only at hSw); go_simp; (try with_reducible rfl))
  (try simp only [Act.put, List.getElem_toArray, List.getElem_cons_zero, List.getElem_cons_succ, List.setIfInBounds_toArray, List.set_cons_zero, List.set_cons_succ])
  refine wpAnyH_take (i := 36) (oi := ({ dst := some 72, op := Go.Op.move (Go.Operand.tmp 71), type := 4, pos := "law.go:69", after := #[{ on := 35, ground := Go.Ground.data }, { on := 31, ground := Go.Ground.chain }], guard := none } : Go.Oper)) (v := ?v32) rfl (by kernel_rfl) (by kernel_rfl) (by kernel_rfl) (fun _ _ _ h => h) (Or.inl ⟨by rfl, ?hy32⟩) (by assumption) ?rest32
  case hy32 => (intro w hSw; (try dsimp only at hSw); go_simp; (try with_reducible rfl))
  (try simp only [Act.put, List.getElem_toArray, List.getElem_cons_zero, List.getElem_cons_succ, List.setIfInBounds_toArray, List.set_cons_zero, List.set_cons_succ])
  refine wpAnyH_take (i := 37) (oi := ({ dst := some 73, op := Go.Op.move (Go.Operand.tmp 5), type := 41, pos := "law.go:69", after := #[{ on := 36, ground := Go.Ground.guard }], guard := some (36, true) } : Go.Oper)) (v := ?v33) rfl (by kernel_rfl) (by kernel_rfl) (by kernel_rfl) (fun _ _ _ h => h) (Or.inl ⟨by rfl, ?hy33⟩) (by assumption) ?rest33
  case hy33 => (intro w hSw; (try dsimp only at hSw); go_simp; (try with_reducible rfl))
  (try simp only [Act.put, List.getElem_toArray, List.getElem_cons_zero, List.getElem_cons_succ, List.setIfInBounds_toArray, List.set_cons_zero, List.set_cons_succ])
  refine wpAnyH_take (i := 38) (oi := ({ dst := some 74, op := Go.Op.indexAddr 41 (Go.Operand.tmp 73) (Go.Operand.const (Go.Value.int Go.IntKind.i64 0)), type := 0, pos := "law.go:69", after := #[{ on := 37, ground := Go.Ground.data }, { on := 36, ground := Go.Ground.guard }], guard := some (36, true) } : Go.Oper)) (v := ?v34) rfl (by kernel_rfl) (by kernel_rfl) (by kernel_rfl) (fun _ _ _ h => h) (Or.inl ⟨by rfl, ?hy34⟩) (by assumption) ?rest34
  case hy34 => (intro w hSw; (try dsimp only at hSw); go_simp; (try with_reducible rfl))
  (try simp only [Act.put, List.getElem_toArray, List.getElem_cons_zero, List.getElem_cons_succ, List.setIfInBounds_toArray, List.set_cons_zero, List.set_cons_succ])
  refine wpAnyH_take (i := 39) (oi := ({ dst := some 75, op := Go.Op.fieldAddr 47 (Go.Operand.tmp 74) 0, type := 0, pos := "law.go:69", after := #[{ on := 38, ground := Go.Ground.data }, { on := 36, ground := Go.Ground.guard }], guard := some (36, true) } : Go.Oper)) (v := ?v35) rfl (by kernel_rfl) (by kernel_rfl) (by kernel_rfl) (fun _ _ _ h => h) (Or.inl ⟨by rfl, ?hy35⟩) (by assumption) ?rest35
  case hy35 => (intro w hSw; (try dsimp only at hSw); go_simp; (try with_reducible rfl))
  (try simp only [Act.put, List.getElem_toArray, List.getElem_cons_zero, List.getElem_cons_succ, List.setIfInBounds_toArray, List.set_cons_zero, List.set_cons_succ])
  refine wpAnyH_take (i := 40) (oi := ({ dst := some 76, op := Go.Op.load 23 (Go.Operand.tmp 75), type := 23, pos := "law.go:69", after := #[{ on := 39, ground := Go.Ground.data }, { on := 36, ground := Go.Ground.guard }], guard := some (36, true) } : Go.Oper)) (v := ?v36) rfl (by kernel_rfl) (by kernel_rfl) (by kernel_rfl) (fun _ _ _ h => h) (Or.inl ⟨by rfl, ?hy36⟩) (by assumption) ?rest36
  case hy36 => (intro w hSw; (try dsimp only at hSw); go_simp; (try with_reducible rfl))
  (try simp only [Act.put, List.getElem_toArray, List.getElem_cons_zero, List.getElem_cons_succ, List.setIfInBounds_toArray, List.set_cons_zero, List.set_cons_succ])
  refine wpAnyH_take (i := 41) (oi := ({ dst := some 77, op := Go.Op.convert 23 9 (Go.Operand.tmp 76), type := 9, pos := "law.go:69", after := #[{ on := 40, ground := Go.Ground.data }, { on := 36, ground := Go.Ground.guard }], guard := some (36, true) } : Go.Oper)) (v := ?v37) rfl (by kernel_rfl) (by kernel_rfl) (by kernel_rfl) (fun _ _ _ h => h) (Or.inl ⟨by rfl, ?hy37⟩) (by assumption) ?rest37
  case hy37 => (intro w hSw; (try dsimp only at hSw); go_simp; (try with_reducible rfl))
  (try simp only [Act.put, List.getElem_toArray, List.getElem_cons_zero, List.getElem_cons_succ, List.setIfInBounds_toArray, List.set_cons_zero, List.set_cons_succ])
  refine wpAnyH_take (i := 42) (oi := ({ dst := some 78, op := Go.Op.binOp Go.BinOp.eql 9 (Go.Operand.tmp 77) (Go.Operand.const (Go.Value.string { data := #[97] })) 9, type := 4, pos := "law.go:69", after := #[{ on := 41, ground := Go.Ground.data }, { on := 36, ground := Go.Ground.guard }], guard := some (36, true) } : Go.Oper)) (v := ?v38) rfl (by kernel_rfl) (by kernel_rfl) (by kernel_rfl) (fun _ _ _ h => h) (Or.inl ⟨by rfl, ?hy38⟩) (by assumption) ?rest38
  case hy38 => (intro w hSw; (try dsimp only at hSw); go_simp; (try with_reducible rfl))
  (try simp only [Act.put, List.getElem_toArray, List.getElem_cons_zero, List.getElem_cons_succ, List.setIfInBounds_toArray, List.set_cons_zero, List.set_cons_succ])
  refine wpAnyH_take (i := 43) (oi := ({ dst := some 79, op := Go.Op.pick (Go.Operand.tmp 72) (Go.Operand.tmp 78) (Go.Operand.const (Go.Value.bool false)), type := 4, pos := "law.go:69", after := #[{ on := 36, ground := Go.Ground.data }, { on := 42, ground := Go.Ground.data }], guard := none } : Go.Oper)) (v := ?v39) rfl (by kernel_rfl) (by kernel_rfl) (by kernel_rfl) (fun _ _ _ h => h) (Or.inl ⟨by rfl, ?hy39⟩) (by assumption) ?rest39
  case hy39 => (intro w hSw; (try dsimp only at hSw); go_simp; (try with_reducible rfl))
  (try simp only [Act.put, List.getElem_toArray, List.getElem_cons_zero, List.getElem_cons_succ, List.setIfInBounds_toArray, List.set_cons_zero, List.set_cons_succ])
  refine wpAnyH_take (i := 44) (oi := ({ dst := some 0, op := Go.Op.assign (Go.Operand.tmp 79), type := 4, pos := "law.go:69", after := #[{ on := 43, ground := Go.Ground.data }, { on := 36, ground := Go.Ground.chain }, { on := 0, ground := Go.Ground.phase }, { on := 1, ground := Go.Ground.phase }, { on := 2, ground := Go.Ground.phase }, { on := 3, ground := Go.Ground.phase }, { on := 4, ground := Go.Ground.phase }, { on := 5, ground := Go.Ground.phase }, { on := 6, ground := Go.Ground.phase }, { on := 7, ground := Go.Ground.phase }, { on := 8, ground := Go.Ground.phase }, { on := 9, ground := Go.Ground.phase }, { on := 10, ground := Go.Ground.phase }, { on := 11, ground := Go.Ground.phase }, { on := 12, ground := Go.Ground.phase }, { on := 13, ground := Go.Ground.phase }, { on := 14, ground := Go.Ground.phase }, { on := 15, ground := Go.Ground.phase }, { on := 16, ground := Go.Ground.phase }, { on := 17, ground := Go.Ground.phase }, { on := 18, ground := Go.Ground.phase }, { on := 19, ground := Go.Ground.phase }, { on := 20, ground := Go.Ground.phase }, { on := 21, ground := Go.Ground.phase }, { on := 22, ground := Go.Ground.phase }, { on := 23, ground := Go.Ground.phase }, { on := 24, ground := Go.Ground.phase }, { on := 25, ground := Go.Ground.phase }, { on := 26, ground := Go.Ground.phase }, { on := 27, ground := Go.Ground.phase }, { on := 28, ground := Go.Ground.phase }, { on := 29, ground := Go.Ground.phase }, { on := 30, ground := Go.Ground.phase }, { on := 31, ground := Go.Ground.phase }, { on := 32, ground := Go.Ground.phase }, { on := 33, ground := Go.Ground.phase }, { on := 34, ground := Go.Ground.phase }, { on := 35, ground := Go.Ground.phase }, { on := 36, ground := Go.Ground.phase }, { on := 37, ground := Go.Ground.phase }, { on := 38, ground := Go.Ground.phase }, { on := 39, ground := Go.Ground.phase }, { on := 40, ground := Go.Ground.phase }, { on := 41, ground := Go.Ground.phase }, { on := 42, ground := Go.Ground.phase }, { on := 43, ground := Go.Ground.phase }], guard := none } : Go.Oper)) (v := ?v40) rfl (by kernel_rfl) (by kernel_rfl) (by kernel_rfl) (fun _ _ _ h => h) (Or.inl ⟨by rfl, ?hy40⟩) (by assumption) ?rest40
  case hy40 => (intro w hSw; (try dsimp only at hSw); go_simp; (try with_reducible rfl))
  (try simp only [Act.put, List.getElem_toArray, List.getElem_cons_zero, List.getElem_cons_succ, List.setIfInBounds_toArray, List.set_cons_zero, List.set_cons_succ])
  refine wpAnyH_done (by kernel_rfl) ?_ _
  all_goals
    go_wp2
    go_ret
    exact ⟨rfl, XA.out.trans (XAQ.out.trans (by with_reducible (repeat (first | exact Ext.rfl_ _ | assumption | refine Ext.drew ?_ | refine Ext.drewN ?_ _ | refine Ext.alloc ?_ _ | refine Ext.trans ?_ (by assumption)))))⟩

end Go.Proofs.Ytmmoopioiheleaa
