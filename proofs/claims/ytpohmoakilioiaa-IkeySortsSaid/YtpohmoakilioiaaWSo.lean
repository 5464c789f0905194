/- The walk of IkeySorts. Conditions: the list reads. -/
import Derived.Test.YtpohmoakilioiaaSoI
import Derived.Test.YtpohmoakilioiaaOwnS
import Derived.Test.YtpohmoakilioiaaKnown
import Derived.StillTailTactics
namespace Go.Proofs.Ytpohmoakilioiaa
set_option linter.unusedSimpArgs false
set_option linter.unusedVariables false
set_option maxRecDepth 100000
open Go.RowKit

/-- An entry of the call's own in whose bytes something is written: it has some bytes still. -/
theorem frE_set {w : World} {base g j : Nat} {h : Hdr} {x : Ent} (f : FrE w base (.agg (cellsE h x).toArray) x) (b : UInt8) :
    ∃ x', cellsE h x' = cellsE h x ∧ FrE (w.setCell ⟨g, j, none⟩ (.int .u8 (b.toNat : Int))) base (.agg (cellsE h x').toArray) x' := by
  obtain ⟨A, n, c, A', n', c', hv, o1, o2, r1, r2, k1, k2, k3, k4, k5, k6⟩ := f
  simp [cellsE] at hv
  obtain ⟨⟨e1, e2, e3⟩, e4, e5, e6⟩ := hv
  obtain ⟨y1, q1⟩ := (OwnB.s o1).set (g := g) (j := j) b _ rfl
  obtain ⟨y2, q2⟩ := (OwnB.s o2).set (g := g) (j := j) b _ rfl
  have l1 : n = y1.length := by
    obtain ⟨A, c, e, _⟩ := own_form q1.out
    injection e
  have l2 : n' = y2.length := by
    obtain ⟨A, c, e, _⟩ := own_form q2.out
    injection e
  refine ⟨⟨y1, x.seq, x.kind, y2⟩, rfl, A, n, c, A', n', c', ?_, q1, q2, Rd.of_OwnB q1 l1, Rd.of_OwnB q2 l2, k1, k2, k3, k4, k5, k6⟩
  simp [cellsE, e1, e2, e3, e4, e5, e6]

/-- .. in a row of them. -/
theorem OwnF.set {w : World} {base g j : Nat} {v : Value} {xs : List Ent} {cs : Array Value} {fr : Nat × Nat} (h : OwnF w base v xs) (hg : w.heap[g]? = some (.cells cs 5 fr)) (b : UInt8) (u : Value) (hu : u = .int .u8 (b.toNat : Int)) :
    ∃ xs', xs'.length = xs.length ∧ OwnF (w.setCell ⟨g, j, none⟩ u) base v xs' := by
  subst hu
  obtain ⟨hs, hl, ho, hr⟩ := h
  have hx : ∀ k : Fin xs.length, ∃ x', cellsE (hs[k.1]'(by omega)) x' = cellsE (hs[k.1]'(by omega)) xs[k.1] ∧ FrE (w.setCell ⟨g, j, none⟩ (.int .u8 (b.toNat : Int))) base (.agg (cellsE (hs[k.1]'(by omega)) x').toArray) x' := fun k => frE_set (hr k.1 (by omega) k.2) b
  let f : Fin xs.length → Ent := fun k => Classical.choose (hx k)
  have hf := fun k => Classical.choose_spec (hx k)
  have hlen : (List.ofFn f).length = xs.length := by simp
  have hrow : rowE hs (List.ofFn f) = rowE hs xs := by
    unfold rowE
    congr 1
    apply List.ext_getElem
    · simp
    · intro i h1 h2
      simp only [List.length_zipWith, List.length_ofFn] at h1
      simp only [List.getElem_zipWith, List.getElem_ofFn]
      exact (hf ⟨i, by omega⟩).1
  refine ⟨List.ofFn f, hlen, hs, by omega, ?_, fun k h1 h2 => ?_⟩
  · rw [hrow, hlen]
    exact ownsRow_kx ho (Kx.of_set hg) (by decide)
  · simp only [List.getElem_ofFn]
    exact (hf ⟨k, by omega⟩).2

/-- What a row of own entries holds at one place. -/
theorem OwnF.entry {w : World} {base n c i : Nat} {A : Option Addr} {xs : List Ent} (h : OwnF w base (.slice A n c) xs) (hi : i < xs.length) :
    ∃ (g : Nat) (H : Hdr), A = some ⟨g, 0, none⟩ ∧ w.cell? ⟨g, i * 4, none⟩ = some (.slice H.A H.n H.c) ∧ OwnS w base (.slice H.A H.n H.c) ∧ H.n ≤ H.c ∧ H.n ≤ B47 ∧ ∃ cs fr, w.heap[g]? = some (.cells cs 25 fr) := by
  obtain ⟨hs, hl, ho, hr⟩ := h
  have hr1 := hr i (by omega) hi
  rcases ho.2 with ⟨hv, h0⟩ | ⟨g, cap, cur, hv, hb, hg, rest⟩
  · omega
  · cases hv
    refine ⟨g, hs[i], rfl, ?_, ?_, ?_, ?_, _, _, hg⟩
    · have := World.ownsRow.cellAt ho (i * 4 + 0) (by omega)
      rw [rowE_get hl i hi 0 (by omega)] at this
      simpa [cellsE] using this
    all_goals
      obtain ⟨A, n, c, A', n', c', hv, o1, o2, r1, r2, k1, k2, k3, k4, k5, k6⟩ := hr1
      simp [cellsE] at hv
      obtain ⟨⟨e1, e2, e3⟩, e4, e5, e6⟩ := hv
    · rw [e1, e2, e3]; exact OwnB.s o1
    · omega
    · omega

theorem cell_set_other {w : World} {g q j o : Nat} {v u : Value} (h : w.cell? ⟨g, o, none⟩ = some v) (hne : g ≠ q) : (w.setCell ⟨q, j, none⟩ u).cell? ⟨g, o, none⟩ = some v := by
  unfold World.cell? at *
  rw [Below.heap_setCell _ _ _ _ (fun e => hne (by simpa using e))]
  exact h

set_option maxRecDepth 100000 in
set_option maxHeartbeats 8000000 in
theorem sorts_walk (A : Option Addr) (n c : Nat) (xs : List Ent) (w : World) (hl : RdL w A n xs) (hnc : n ≤ c) :
    Calls Try.prog 13 #[.slice A n c] w fun e w' => e = .returned (.bool true) ∧ Ext w w' := by
  have HL := Lib.hid hl
  have hn := hl.2.1
  unfold B41 at hn
  have hxl := hl.1
  clear hl
  by_cases hm : 100000 < wt xs
  · have hd : decide (100000 < wt xs) = true := decide_eq_true hm
    have HD := Lib.hid hd
    clear hd hm
    go_enter Try.func13, Try.ntmps13
    go_wp2_with fail
    refine (rmuch_any A n c 100000 xs _ HL.out (by decide)).mono ?_
    rintro e w1 ⟨rfl, hw1⟩
    rw [HD.out]
    go_wp2_with fail
    refine (known_any _).mono ?_
    rintro e w2 ⟨rfl, hw2⟩
    go_wp2
    go_ret
    exact ⟨rfl, (by with_reducible (repeat (first | exact Ext.rfl_ _ | assumption | refine Ext.drew ?_ | refine Ext.drewN ?_ _ | refine Ext.alloc ?_ _ | refine Ext.trans ?_ (by assumption))))⟩
  have hd : decide (100000 < wt xs) = false := decide_eq_false hm
  have HD := Lib.hid hd
  clear hd hm
  by_cases h3 : (300 : Int) < (n : Int)
  · go_enter Try.func13, Try.ntmps13
    go_wp2_with fail
    refine (rmuch_any A n c 100000 xs _ HL.out (by decide)).mono ?_
    rintro e w1 ⟨rfl, hw1⟩
    rw [HD.out]
    go_wp2_with fail
    refine (known_any _).mono ?_
    rintro e w2 ⟨rfl, hw2⟩
    go_wp2
    go_ret
    exact ⟨rfl, (by with_reducible (repeat (first | exact Ext.rfl_ _ | assumption | refine Ext.drew ?_ | refine Ext.drewN ?_ _ | refine Ext.alloc ?_ _ | refine Ext.trans ?_ (by assumption))))⟩
  have h300 : n ≤ 300 := by omega
  go_enter Try.func13, Try.ntmps13
  go_wp2_with fail
  refine (rmuch_any A n c 100000 xs _ HL.out (by decide)).mono ?_
  rintro e w1 ⟨rfl, hw1⟩
  rw [HD.out]
  go_wp2_with fail
  refine (rcopyL_any A n c xs _ (HL.out.ext (by with_reducible (repeat (first | exact Ext.rfl_ _ | assumption | refine Ext.drew ?_ | refine Ext.drewN ?_ _ | refine Ext.alloc ?_ _ | refine Ext.trans ?_ (by assumption))))) hnc (by omega)).mono ?_
  rintro e w2 ⟨v2, rfl, o2, hw2⟩
  have hx41 : xs.length ≤ B41 := by unfold B41; omega
  obtain ⟨A2, c2, ev2, hc2, r2, _⟩ := o2.ownL.form hx41
  rw [hxl] at ev2 hc2 r2
  subst ev2
  have R2 := Lib.hid r2
  have X2 := Lib.hid (hw1.trans hw2)
  clear r2 hw1 hw2 o2
  go_wp2_with fail
  refine (isort_any A2 n c2 xs _ R2.out hc2 (by omega)).mono ?_
  rintro e w3 ⟨v3, S, rfl, hS, o3, hw3⟩
  have hSl : S.length = n := hS.perm.length_eq.trans hxl
  have HS := Lib.hid hS
  have hS41 : S.length ≤ B41 := by unfold B41; omega
  obtain ⟨A3, c3, ev3, hc3, r3, hi3, _⟩ := o3.ownL.form hS41
  rw [hSl] at ev3 hc3 r3
  subst ev3
  have R3 := Lib.hid r3
  have O3 := Lib.hid o3
  have X3 := Lib.hid hw3
  clear r3 o3 hw3 hS hi3
  go_wp2_with fail
  refine (rsort_any A n c xs _ (HL.out.ext (X2.out.trans X3.out)) hnc (by omega)).mono ?_
  rintro e w4 ⟨v4, S4, rfl, hS4, o4, hw4⟩
  obtain rfl : S4 = S := hS4.one HS.out
  obtain ⟨A4, c4, ev4, hc4, r4, _⟩ := o4.ownL.form hS41
  rw [hSl] at ev4 hc4 r4
  subst ev4
  have R4 := Lib.hid r4
  have X4 := Lib.hid hw4
  clear r4 o4 hw4 hS4
  go_wp2_with fail
  refine (rsameL_any A3 _ c3 A4 _ c4 S4 S4 _ (R3.out.ext X4.out) R4.out).mono ?_
  rintro e w5 ⟨rfl, hw5⟩
  rw [show decide (S4 = S4) = true from decide_eq_true rfl]
  have X5 := Lib.hid hw5
  clear hw5
  go_wp2_with fail
  refine (rsameL_any A2 _ c2 A _ c xs xs _ (R2.out.ext (X3.out.trans (X4.out.trans X5.out))) (HL.out.ext (X2.out.trans (X3.out.trans (X4.out.trans X5.out))))).mono ?_
  rintro e w6 ⟨rfl, hw6⟩
  rw [show decide (xs = xs) = true from decide_eq_true rfl]
  have X6 := Lib.hid hw6
  clear hw6
  go_wp2_with fail
  refine (irising_any A n c xs _ (HL.out.ext (X2.out.trans (X3.out.trans (X4.out.trans (X5.out.trans X6.out))))) hnc).mono ?_
  rintro e w7 ⟨rfl, hw7⟩
  have X7 := Lib.hid hw7
  have hb1 : (((ris none xs).length : Int) == (n : Int)) = riseB xs := by
    unfold riseB
    rw [← hxl, beqd]
    exact decide_eq_decide.2 (by omega)
  rw [hb1]
  clear hw7 hb1
  go_wp2_with fail
  refine (rrising_any A n c xs _ (HL.out.ext (X2.out.trans (X3.out.trans (X4.out.trans (X5.out.trans (X6.out.trans X7.out)))))) hnc).mono ?_
  rintro e w8 ⟨rfl, hw8⟩
  have X8 := Lib.hid hw8
  have hne : (riseB xs != riseB xs) = false := by simp
  clear hw8
  go_wp2_with fail
  refine (irising_any A3 _ c3 S4 _ (R3.out.ext (X4.out.trans (X5.out.trans (X6.out.trans (X7.out.trans X8.out))))) hc3).mono ?_
  rintro e w9 ⟨rfl, hw9⟩
  have X9 := Lib.hid hw9
  have hb2 : (((ris none S4).length : Int) == (n : Int)) = riseB S4 := by
    unfold riseB
    rw [← hSl, beqd]
    exact decide_eq_decide.2 (by omega)
  rw [hb2]
  clear hw9 hb2
  go_wp2_with fail
  refine (rrising_any A3 _ c3 S4 _ (R3.out.ext (X4.out.trans (X5.out.trans (X6.out.trans (X7.out.trans (X8.out.trans X9.out)))))) hc3).mono ?_
  rintro e wa ⟨rfl, hwa⟩
  have XA := Lib.hid (X4.out.trans (X5.out.trans (X6.out.trans (X7.out.trans (X8.out.trans (X9.out.trans hwa))))))
  have hne2 : (riseB S4 != riseB S4) = false := by simp
  have OA := Lib.hid (O3.out.ext XA.out)
  have X2A := Lib.hid (X3.out.trans XA.out)
  clear hwa
  go_wp2
  go_loopw [5] (fun i wr => ∃ (k : Nat) (ys : List Ent), i = .int .i64 k ∧ k ≤ n ∧ ys.length = n ∧ Hid (Ext w2 wr) ∧ Hid (OwnF wr w2.heap.size (.slice A3 n c3) ys)) (fun i _ => n - (intOf i).toNat)
  case atStart => exact ⟨0, S4, rfl, Nat.zero_le _, hSl, X2A, OA⟩
  case round =>
    obtain ⟨i, ys, rfl, hi, hys, HX, HO⟩ := hrel
    by_cases hlt : i < n
    · have hltz : (i : Int) < (n : Int) := by omega
      have hic : (i : Int) < (c3 : Int) := by omega
      have hic2 : i < c3 := by omega
      obtain ⟨g, ⟨A5, n5, c5, B5, m5, d5⟩, rfl, hcell, _, hH1, hH2, _⟩ := HO.out.entry (i := i) (by omega)
      dsimp only at hcell hH1 hH2
      unfold B47 at hH2
      obtain ⟨wo, hwo⟩ : ∃ wo, wo = wr := ⟨_, rfl⟩
      have HC := Lib.hid hcell
      clear hcell hwo
      go_wp2
      go_loopw [6] (fun j wx => ∃ (k : Nat) (ys : List Ent), j = .int .i64 k ∧ k ≤ n5 ∧ ys.length = n ∧ Hid (Ext w2 wx) ∧ Hid (OwnF wx w2.heap.size (.slice (some ⟨g, 0, none⟩) n c3) ys) ∧ Hid (wx.cell? ⟨g, i * 4, none⟩ = some (.slice A5 n5 c5))) (fun j _ => n5 - (intOf j).toNat)
      case atStart => exact ⟨0, ys, rfl, Nat.zero_le _, hys, HX, HO, HC⟩
      case round =>
        clear hys HX HO HC
        clear ys
        obtain ⟨k, ys, rfl, hk, hys, HX, HO, HC⟩ := hrel
        have hcell := HC.out
        by_cases hkt : (k : Int) < (n5 : Int)
        · obtain ⟨g', ⟨A6, n6, c6, B6, m6, d6⟩, hgg, hcell', hOS, _, _, cs0, fr0, hrowg⟩ := HO.out.entry (i := i) (by omega)
          cases hgg
          dsimp only at hcell' hOS
          rw [hcell] at hcell'
          cases hcell'
          obtain ⟨q, b, cs, fr, rfl, hqb, hbyte, hfro, hq⟩ := hOS.at_ (show k < n5 by omega)
          obtain ⟨b', hb'⟩ := xor1 b
          have HB' := Lib.hid hb'
          have hgq : g ≠ q := fun e => by rw [e, hq] at hrowg; simp at hrowg
          have HG := Lib.hid hgq
          have HQB := Lib.hid hqb
          have HSET := Lib.hid (HO.out.set (j := k) hq b' (.int .u8 (bits .xor .u8 (b.toNat : Int) 1)) (by rw [hb']))
          have hkc5 : (k : Int) < (c5 : Int) := by omega
          clear hb' hgq hqb hrowg hOS hq
          go_wp2
          go_still_tail 16, (by kernel_rfl)
          go_wp2
          go_roundw
          case rel =>
            obtain ⟨ys', hl', ho'⟩ := HSET.out
            exact ⟨k + 1, ys', by go_num, by omega, hl'.trans hys, Lib.hid ((HX.out.setCell HQB.out _).drew), Lib.hid (ho'.ext (Ext.drew (Ext.rfl_ _))), Lib.hid (cell_set_other HC.out HG.out)⟩
          case measure => simp [intOf]; omega
        · go_wp2
          go_roundw
          case rel => exact ⟨i + 1, ys, by go_num, by omega, hys, HX, HO⟩
          case measure => simp [intOf]; omega
    · have hltz : ¬ (i : Int) < (n : Int) := by omega
      go_wp2_with fail
      refine (rsameL_any A2 _ c2 A _ c xs xs _ (R2.out.ext HX.out) (HL.out.ext (X2.out.trans HX.out))).mono ?_
      rintro e wb ⟨rfl, hwb⟩
      rw [show decide (xs = xs) = true from decide_eq_true rfl]
      have XB := Lib.hid hwb
      clear hwb
      go_wp2_with fail
      refine (known_any _).mono ?_
      rintro e wc ⟨rfl, hwc⟩
      go_wp2
      go_ret
      exact ⟨rfl, X2.out.trans (HX.out.trans (XB.out.trans hwc))⟩

end Go.Proofs.Ytpohmoakilioiaa
