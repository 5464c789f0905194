/- The reference's Clip; merge.Rising. Conditions: the lists read; the iterator's contract. -/
import Derived.Test.YtmmoopioiheleaaMgS
import Derived.Test.YtmmoopioiheleaaMgI
namespace Go.Proofs.Ytmmoopioiheleaa
set_option linter.unusedSimpArgs false
set_option linter.unusedVariables false
open Go.RowKit

theorem RdLa.oneE {w : World} {base : Nat} {q : Hdr} {x : Ent} (t : TypeId) (he : Elt w base q x) : RdLa (w.alloc (.cells #[.slice q.A q.n q.c, .int .i64 x.seq, .int .i64 x.kind, .slice q.B q.m q.d] t)) base (some ⟨w.heap.size, 0, none⟩) 1 [x] := RdLa.one t he

set_option maxRecDepth 100000 in
set_option maxHeartbeats 8000000 in
theorem rclip_any (A : Option Addr) (n c : Nat) (xs : List Ent) (B : Option Addr) (nf cf : Nat) (f : Bs) (C : Option Addr) (nt ct : Nat) (t : Bs) (en : Bool) (w : World) (hl : RdL w A n xs) (hf : Rd w B nf f) (hf1 : nf ≤ cf) (hf2 : nf ≤ B47) (ht : Rd w C nt t) (ht1 : nt ≤ ct) (ht2 : nt ≤ B47) (hn : n ≤ 1000000) :
    Calls Try.prog 10 #[.slice A n c, .slice B nf cf, .slice C nt ct, .bool en] w fun e w' => ∃ v, e = .returned v ∧ OwnL w' w.heap.size v (xs.filter (clpP f t en)) ∧ Ext w w' := by
  have HL := Lib.hid hl
  have hlen := hl.1
  have HF := Lib.hid hf
  have HT := Lib.hid ht
  clear hl hf ht
  go_enter Try.func10, Try.ntmps10
  go_wp2
  go_loopw [9, 10] (fun v i wr => ∃ k : Nat, i = .int .i64 k ∧ k ≤ n ∧ Hid (OwnL wr w.heap.size v ((xs.take k).filter (clpP f t en))) ∧ Ext w wr) (fun _ i _ => n - (intOf i).toNat)
  case atStart => exact ⟨0, rfl, Nat.zero_le _, Lib.hid (OwnL.nil _ _), Ext.rfl_ _⟩
  case round =>
    obtain ⟨k, rfl, hk, HO, hE⟩ := hrel
    by_cases c1 : k < n
    · have c1I : (k : Int) < (n : Int) := by omega
      obtain ⟨bb, oo, rfl, _⟩ := HL.out.2.2 (by omega)
      obtain ⟨x, hx⟩ : ∃ x, xs[k]? = some x := ⟨_, List.getElem?_eq_getElem (by omega)⟩
      have hxk : xs[k]'(by omega) = x := (List.getElem?_eq_some_iff.1 hx).2
      obtain ⟨q, ⟨q0, q1, q2, q3⟩, hel⟩ := HL.out.elt hx hE
      have HE := Lib.hid (hel w.heap.size (Nat.le_refl _))
      obtain ⟨hrk, _, hk1, _, hk2, _⟩ := RdE.parts HE.out.rdE
      have HRK := Lib.hid hrk
      have XE := Lib.hid hE
      have HY : Hid (clpP f t en x = true → (xs.take (k + 1)).filter (clpP f t en) = (xs.take k).filter (clpP f t en) ++ [x]) := Lib.hid fun hp => by rw [filter_takeE (by omega), hxk, if_pos hp]
      have HN : Hid (clpP f t en x = false → (xs.take (k + 1)).filter (clpP f t en) = (xs.take k).filter (clpP f t en)) := Lib.hid fun hp => by rw [filter_takeE (by omega), hxk, if_neg (by rw [hp]; decide), List.append_nil]
      have HFL : Hid (((xs.take k).filter (clpP f t en)).length + 1 ≤ B41) := Lib.hid (by have := List.length_filter_le (clpP f t en) (xs.take k); simp at this; unfold B41; omega)
      clear hel hrk hx hxk
      go_wp2_with fail
      refine (less_any _ _ _ _ _ _ x.key f _ HRK.out (HF.out.ext XE.out) hk2 hk1 hf1 hf2).mono ?_
      rintro e w4 ⟨rfl, hw4⟩
      by_cases hc1 : cmpK x.key f < 0
      · have hd1 : decide (cmpK x.key f < 0) = true := decide_eq_true hc1
        have hd0 : decide (0 ≤ cmpK x.key f) = false := decide_eq_false (by omega)
        have HPP := Lib.hid (show clpP f t en x = false from by unfold clpP; rw [hd0]; rfl)
        have X4 := Lib.hid hw4
        clear hc1 hd0 q0 q1 q2 q3 hw4
        go_wp2
        go_roundw
        case rel => exact ⟨k + 1, by go_num, by omega, Lib.hid (by rw [HN.out HPP.out]; exact HO.out.ext X4.out), XE.out.trans X4.out⟩
        case measure => simp [intOf]; omega
      · have hd1 : decide (cmpK x.key f < 0) = false := decide_eq_false hc1
        have hd0 : decide (0 ≤ cmpK x.key f) = true := decide_eq_true (by omega)
        have HD0 := Lib.hid hd0
        have r0 := hw4.keeps _ _ _ q0
        have r1 := hw4.keeps _ _ _ q1
        have r2 := hw4.keeps _ _ _ q2
        have r3 := hw4.keeps _ _ _ q3
        clear hc1 hd0 q0 q1 q2 q3
        cases en with
        | true =>
          have X4' := Lib.hid hw4
          clear hw4
          go_wp2_with fail
          refine (less_any _ _ _ _ _ _ x.key t _ (HRK.out.ext X4'.out) (HT.out.ext (XE.out.trans X4'.out)) hk2 hk1 ht1 ht2).mono ?_
          rintro e w6 ⟨rfl, hw6⟩
          by_cases hc2 : cmpK x.key t < 0
          · have hd2 : decide (cmpK x.key t < 0) = true := decide_eq_true hc2
            have HPP := Lib.hid (show clpP f t true x = true from by unfold clpP; rw [HD0.out, hd2]; rfl)
            have X4 := Lib.hid (X4'.out.trans hw6)
            have p0 := hw6.keeps _ _ _ r0
            have p1 := hw6.keeps _ _ _ r1
            have p2 := hw6.keeps _ _ _ r2
            have p3 := hw6.keeps _ _ _ r3
            clear hc2 hw6 r0 r1 r2 r3
            go_wp2_with (first | (at_builtin; refine wp_appL rfl _ _ rfl w.heap.size _ ((xs.take k).filter (clpP f t true)) rfl (HO.out.ext (X4.out.trans (Ext.alloc (Ext.rfl_ _) _))) (some ⟨w6.heap.size, 0, none⟩) 1 1 [x] rfl (RdLa.one _ (HE.out.ext X4.out)) HFL.out (Ext.size (XE.out.trans (X4.out.trans (Ext.alloc (Ext.rfl_ w6) _)))) ?_; intro v5 w5 o5 g5 _; have O5 := Lib.hid o5; have X5 := Lib.hid (show Ext w w5 from Ext.growL (XE.out.trans (X4.out.trans (Ext.alloc (Ext.rfl_ w6) _))) g5 (HO.out.ext (X4.out.trans (Ext.alloc (Ext.rfl_ w6) _))) (Nat.le_refl _)); clear o5 g5))
            go_roundw
            case rel => exact ⟨k + 1, by go_num, by omega, Lib.hid (by rw [HY.out HPP.out]; exact O5.out), X5.out⟩
            case measure => simp [intOf]; omega
          · have hd2 : decide (cmpK x.key t < 0) = false := decide_eq_false hc2
            have HPP := Lib.hid (show clpP f t true x = false from by unfold clpP; rw [HD0.out, hd2]; rfl)
            have X4 := Lib.hid (X4'.out.trans hw6)
            clear hc2 hw6 r0 r1 r2 r3
            go_wp2
            go_roundw
            case rel => exact ⟨k + 1, by go_num, by omega, Lib.hid (by rw [HN.out HPP.out]; exact HO.out.ext X4.out), XE.out.trans X4.out⟩
            case measure => simp [intOf]; omega
        | false =>
          have HPP := Lib.hid (show clpP f t false x = true from by unfold clpP; rw [HD0.out]; rfl)
          have X4 := Lib.hid hw4
          clear hw4
          go_wp2_with (first | (at_builtin; refine wp_appL rfl _ _ rfl w.heap.size _ ((xs.take k).filter (clpP f t false)) rfl (HO.out.ext (X4.out.trans (Ext.alloc (Ext.rfl_ _) _))) (some ⟨w4.heap.size, 0, none⟩) 1 1 [x] rfl (RdLa.one _ (HE.out.ext X4.out)) HFL.out (Ext.size (XE.out.trans (X4.out.trans (Ext.alloc (Ext.rfl_ w4) _)))) ?_; intro v5 w5 o5 g5 _; have O5 := Lib.hid o5; have X5 := Lib.hid (show Ext w w5 from Ext.growL (XE.out.trans (X4.out.trans (Ext.alloc (Ext.rfl_ w4) _))) g5 (HO.out.ext (X4.out.trans (Ext.alloc (Ext.rfl_ w4) _))) (Nat.le_refl _)); clear o5 g5))
          go_roundw
          case rel => exact ⟨k + 1, by go_num, by omega, Lib.hid (by rw [HY.out HPP.out]; exact O5.out), X5.out⟩
          case measure => simp [intOf]; omega
    · have e0 : xs.take k = xs := List.take_of_length_le (by omega)
      have c1I : ¬ (k : Int) < (n : Int) := by omega
      rw [e0] at HO
      go_wp2
      go_ret
      exact ⟨_, rfl, HO.out, hE⟩

/-- What merge.Rising's comparison answers. -/
def cmpR (x y : Ent) : Int := if cmpE x y = 0 then -1 else cmpE x y
theorem cmpR_neg (x y : Ent) : cmpR y x < 0 ↔ ¬ cmpE x y < 0 := by
  unfold cmpR
  have := cmpE_anti x y
  have := cmpE_range x y
  split <;> omega

set_option maxRecDepth 100000 in
set_option maxHeartbeats 1000000 in
theorem rising1_any (u v : Value) (x y : Ent) (w : World) (hx : RdE w u x) (hy : RdE w v y) :
    Calls Try.prog 25 #[u, v] w fun e w' => e = .returned (.int .i64 (cmpR x y)) ∧ Ext w w' := by
  have HX := Lib.hid hx
  have HY := Lib.hid hy
  obtain ⟨A, n, c, A', n', c', rfl, _⟩ := hx
  obtain ⟨B, m, d, B', m', d', rfl, _⟩ := hy
  obtain ⟨hb1, hb2⟩ := two_new w (.cells #[.slice A n c, .int .i64 x.seq, .int .i64 x.kind, .slice A' n' c'] 37) (.cells #[.slice B m d, .int .i64 y.seq, .int .i64 y.kind, .slice B' m' d'] 37)
  obtain ⟨s0, s1, s2, s3, _⟩ := box4 hb1 (Ext.rfl_ _)
  obtain ⟨t0, t1, t2, t3, _⟩ := box4 hb2 (Ext.rfl_ _)
  clear hb1 hb2
  by_cases hc : cmpE x y = 0
  · have h1 : (cmpE x y != 0) = false := by simp [hc]
    have HR : Hid ((-1 : Int) = cmpR x y) := Lib.hid (by unfold cmpR; rw [if_pos hc])
    clear hc
    go_enter Try.func25, Try.ntmps25
    go_wp2_with fail
    refine (compare_any _ _ x y _ (HX.out.ext (by with_reducible (repeat (first | exact Ext.rfl_ _ | assumption | refine Ext.drew ?_ | refine Ext.drewN ?_ _ | refine Ext.alloc ?_ _ | refine Ext.trans ?_ (by assumption))))) (HY.out.ext (by with_reducible (repeat (first | exact Ext.rfl_ _ | assumption | refine Ext.drew ?_ | refine Ext.drewN ?_ _ | refine Ext.alloc ?_ _ | refine Ext.trans ?_ (by assumption)))))).mono ?_
    rintro e w4 ⟨rfl, hw4⟩
    go_wp2
    go_ret
    exact ⟨ret_int HR.out, (by with_reducible (repeat (first | exact Ext.rfl_ _ | assumption | refine Ext.drew ?_ | refine Ext.drewN ?_ _ | refine Ext.alloc ?_ _ | refine Ext.trans ?_ (by assumption))))⟩
  · have h1 : (cmpE x y != 0) = true := by simp [hc]
    have HR : Hid (cmpE x y = cmpR x y) := Lib.hid (by unfold cmpR; rw [if_neg hc])
    clear hc
    go_enter Try.func25, Try.ntmps25
    go_wp2_with fail
    refine (compare_any _ _ x y _ (HX.out.ext (by with_reducible (repeat (first | exact Ext.rfl_ _ | assumption | refine Ext.drew ?_ | refine Ext.drewN ?_ _ | refine Ext.alloc ?_ _ | refine Ext.trans ?_ (by assumption))))) (HY.out.ext (by with_reducible (repeat (first | exact Ext.rfl_ _ | assumption | refine Ext.drew ?_ | refine Ext.drewN ?_ _ | refine Ext.alloc ?_ _ | refine Ext.trans ?_ (by assumption)))))).mono ?_
    rintro e w4 ⟨rfl, hw4⟩
    go_wp2
    go_ret
    exact ⟨ret_int HR.out, (by with_reducible (repeat (first | exact Ext.rfl_ _ | assumption | refine Ext.drew ?_ | refine Ext.drewN ?_ _ | refine Ext.alloc ?_ _ | refine Ext.trans ?_ (by assumption))))⟩

set_option maxRecDepth 100000 in
set_option maxHeartbeats 4000000 in
theorem sorted_any (A : Option Addr) (n c : Nat) (xs : List Ent) (w : World) (hl : RdL w A n xs) (hnc : n ≤ c) :
    Calls Try.prog 24 #[.slice A n c, .func (.func 25) #[] #[]] w fun e w' => e = .returned (.bool (decide (ordP xs))) ∧ Ext w w' := by
  have HL := Lib.hid hl
  have hlen := hl.1
  have hn := hl.2.1
  unfold B41 at hn
  clear hl
  have hw0 : wrap64 ((n : Int) - 1) = (n : Int) - 1 := by unfold wrap64; omega
  go_enter Try.func24, Try.ntmps24
  go_wp2
  go_loopw [5] (fun i wr => ∃ z : Int, i = .int .i64 z ∧ -1 ≤ z ∧ z < n ∧ Hid (∀ j (h : j + 1 < xs.length), z ≤ j → cmpE xs[j] xs[j + 1] < 0) ∧ Ext w wr) (fun i _ => (intOf i + 1).toNat)
  case atStart => exact ⟨(n : Int) - 1, by first | rfl | (congr 1), by omega, by omega, Lib.hid (fun j h hj => absurd h (by omega)), Ext.rfl_ _⟩
  case round =>
    obtain ⟨z, rfl, hz1, hz2, h1, hE⟩ := hrel
    by_cases c1 : (0 : Int) < z
    · obtain ⟨k, rfl⟩ : ∃ k : Nat, z = ((k + 1 : Nat) : Int) := ⟨(z - 1).toNat, by omega⟩
      have c1I : ((k + 1 : Nat) : Int) < (n : Int) := by omega
      obtain ⟨b, o, A1, n1, c1', A2, n2, c2', x, rfl, hx, ⟨q0, q1, q2, q3⟩, hr⟩ := HL.out.at_ k (by omega)
      obtain ⟨b', o', A1', n1', d1', A2', n2', d2', y, he, hy, ⟨p0, p1, p2, p3⟩, hs⟩ := HL.out.at_ (k + 1) (by omega)
      cases he
      have hkx : k + 1 < xs.length := by omega
      have ex : xs[k] = x := by rw [List.getElem?_eq_getElem (by omega)] at hx; exact Option.some.inj hx
      have ey : xs[k + 1] = y := by rw [List.getElem?_eq_getElem hkx] at hy; exact Option.some.inj hy
      have HS : Hid (∀ W, Ext w W → ((W.cell? ⟨b, o + k * 4, none⟩ = some (.slice A1 n1 c1') ∧ W.cell? ⟨b, o + k * 4 + 1, none⟩ = some (.int .i64 x.seq) ∧ W.cell? ⟨b, o + k * 4 + 2, none⟩ = some (.int .i64 x.kind) ∧ W.cell? ⟨b, o + k * 4 + 3, none⟩ = some (.slice A2 n2 c2')) ∧ (W.cell? ⟨b, o + (k + 1) * 4, none⟩ = some (.slice A1' n1' d1') ∧ W.cell? ⟨b, o + (k + 1) * 4 + 1, none⟩ = some (.int .i64 y.seq) ∧ W.cell? ⟨b, o + (k + 1) * 4 + 2, none⟩ = some (.int .i64 y.kind) ∧ W.cell? ⟨b, o + (k + 1) * 4 + 3, none⟩ = some (.slice A2' n2' d2')))) := Lib.hid fun W K =>
        ⟨⟨K.keeps _ _ _ q0, K.keeps _ _ _ q1, K.keeps _ _ _ q2, K.keeps _ _ _ q3⟩, ⟨K.keeps _ _ _ p0, K.keeps _ _ _ p1, K.keeps _ _ _ p2, K.keeps _ _ _ p3⟩⟩
      have HR1 := Lib.hid hr
      have HR2 := Lib.hid hs
      have EX := Lib.hid ex
      have EY := Lib.hid ey
      have hwr1 : IntKind.i64.wrap (((k + 1 : Nat) : Int) - 1) = (k : Int) := by rw [IntKind.wrap_i64]; omega
      have hwr2 : wrap64 (((k + 1 : Nat) : Int) - 1) = (k : Int) := by unfold wrap64; omega
      have hkn : (k : Int) < (n : Int) := by omega
      have hwr3 : IntKind.i64.wrap (k : Int) = (k : Int) := by rw [IntKind.wrap_i64]; omega
      have hk0 : (0 : Int) ≤ (k : Int) + 1 := by omega
      have hkn1 : (k : Int) + 1 < (n : Int) := by omega
      clear hr hs q0 q1 q2 q3 p0 p1 p2 p3 hx hy ex ey
      by_cases hxy : cmpE x y < 0
      · have hd : decide (cmpR y x < 0) = false := decide_eq_false (fun h => (cmpR_neg x y).1 h hxy)
        have HXY := Lib.hid hxy
        clear hxy
        go_wp2
        refine wp_region_held_drew (S := (fun W => (W.cell? ⟨b, o + k * 4, none⟩ = some (.slice A1 n1 c1') ∧ W.cell? ⟨b, o + k * 4 + 1, none⟩ = some (.int .i64 x.seq) ∧ W.cell? ⟨b, o + k * 4 + 2, none⟩ = some (.int .i64 x.kind) ∧ W.cell? ⟨b, o + k * 4 + 3, none⟩ = some (.slice A2 n2 c2')) ∧ (W.cell? ⟨b, o + (k + 1) * 4, none⟩ = some (.slice A1' n1' d1') ∧ W.cell? ⟨b, o + (k + 1) * 4 + 1, none⟩ = some (.int .i64 y.seq) ∧ W.cell? ⟨b, o + (k + 1) * 4 + 2, none⟩ = some (.int .i64 y.kind) ∧ W.cell? ⟨b, o + (k + 1) * 4 + 3, none⟩ = some (.slice A2' n2' d2')))) (by kernel_rfl) (by (try dsimp only); exact HS.out _ (by with_reducible (repeat (first | exact Ext.rfl_ _ | assumption | refine Ext.drew ?_ | refine Ext.drewN ?_ _ | refine Ext.alloc ?_ _ | refine Ext.trans ?_ (by assumption))))) (fun hHeld => ?_)
        refine wpAnyH_take (i := 0) (oi := ({ dst := some 13, op := Go.Op.move (Go.Operand.tmp 1), type := 53, pos := "sort.go:55", after := #[], guard := none } : Go.Oper)) (v := ?v1) rfl (by kernel_rfl) (by kernel_rfl) (by kernel_rfl) (fun _ _ _ h => h) (Or.inl ⟨by rfl, ?hy1⟩) (by assumption) ?rest1
        case hy1 => (intro w hSw; (try dsimp only at hSw); go_simp; (try with_reducible rfl))
        (try simp only [Act.put, List.getElem_toArray, List.getElem_cons_zero, List.getElem_cons_succ, List.setIfInBounds_toArray, List.set_cons_zero, List.set_cons_succ])
        refine wpAnyH_take (i := 1) (oi := ({ dst := some 14, op := Go.Op.move (Go.Operand.tmp 0), type := 22, pos := "sort.go:55", after := #[], guard := none } : Go.Oper)) (v := ?v2) rfl (by kernel_rfl) (by kernel_rfl) (by kernel_rfl) (fun _ _ _ h => h) (Or.inl ⟨by rfl, ?hy2⟩) (by assumption) ?rest2
        case hy2 => (intro w hSw; (try dsimp only at hSw); go_simp; (try with_reducible rfl))
        (try simp only [Act.put, List.getElem_toArray, List.getElem_cons_zero, List.getElem_cons_succ, List.setIfInBounds_toArray, List.set_cons_zero, List.set_cons_succ])
        refine wpAnyH_take (i := 2) (oi := ({ dst := some 15, op := Go.Op.move (Go.Operand.tmp 5), type := 3, pos := "sort.go:55", after := #[], guard := none } : Go.Oper)) (v := ?v3) rfl (by kernel_rfl) (by kernel_rfl) (by kernel_rfl) (fun _ _ _ h => h) (Or.inl ⟨by rfl, ?hy3⟩) (by assumption) ?rest3
        case hy3 => (intro w hSw; (try dsimp only at hSw); go_simp; (try with_reducible rfl))
        (try simp only [Act.put, List.getElem_toArray, List.getElem_cons_zero, List.getElem_cons_succ, List.setIfInBounds_toArray, List.set_cons_zero, List.set_cons_succ])
        refine wpAnyH_take (i := 3) (oi := ({ dst := some 16, op := Go.Op.indexAddr 22 (Go.Operand.tmp 14) (Go.Operand.tmp 15), type := 0, pos := "sort.go:55", after := #[{ on := 1, ground := Go.Ground.data }, { on := 2, ground := Go.Ground.data }], guard := none } : Go.Oper)) (v := ?v4) rfl (by kernel_rfl) (by kernel_rfl) (by kernel_rfl) (fun _ _ _ h => h) (Or.inl ⟨by rfl, ?hy4⟩) (by assumption) ?rest4
        case hy4 => (intro w hSw; (try dsimp only at hSw); go_simp; (try with_reducible rfl))
        (try simp only [Act.put, List.getElem_toArray, List.getElem_cons_zero, List.getElem_cons_succ, List.setIfInBounds_toArray, List.set_cons_zero, List.set_cons_succ])
        refine wpAnyH_take (i := 4) (oi := ({ dst := some 17, op := Go.Op.load 37 (Go.Operand.tmp 16), type := 37, pos := "sort.go:55", after := #[{ on := 3, ground := Go.Ground.data }], guard := none } : Go.Oper)) (v := ?v5) rfl (by kernel_rfl) (by kernel_rfl) (by kernel_rfl) (fun _ _ _ h => h) (Or.inl ⟨by rfl, ?hy5⟩) (by assumption) ?rest5
        case hy5 => (intro w hSw; (try dsimp only at hSw); go_simp; (try with_reducible rfl))
        (try simp only [Act.put, List.getElem_toArray, List.getElem_cons_zero, List.getElem_cons_succ, List.setIfInBounds_toArray, List.set_cons_zero, List.set_cons_succ])
        refine wpAnyH_take (i := 5) (oi := ({ dst := some 18, op := Go.Op.move (Go.Operand.tmp 0), type := 22, pos := "sort.go:55", after := #[], guard := none } : Go.Oper)) (v := ?v6) rfl (by kernel_rfl) (by kernel_rfl) (by kernel_rfl) (fun _ _ _ h => h) (Or.inl ⟨by rfl, ?hy6⟩) (by assumption) ?rest6
        case hy6 => (intro w hSw; (try dsimp only at hSw); go_simp; (try with_reducible rfl))
        (try simp only [Act.put, List.getElem_toArray, List.getElem_cons_zero, List.getElem_cons_succ, List.setIfInBounds_toArray, List.set_cons_zero, List.set_cons_succ])
        refine wpAnyH_take (i := 6) (oi := ({ dst := some 19, op := Go.Op.move (Go.Operand.tmp 5), type := 3, pos := "sort.go:55", after := #[], guard := none } : Go.Oper)) (v := ?v7) rfl (by kernel_rfl) (by kernel_rfl) (by kernel_rfl) (fun _ _ _ h => h) (Or.inl ⟨by rfl, ?hy7⟩) (by assumption) ?rest7
        case hy7 => (intro w hSw; (try dsimp only at hSw); go_simp; (try with_reducible rfl))
        (try simp only [Act.put, List.getElem_toArray, List.getElem_cons_zero, List.getElem_cons_succ, List.setIfInBounds_toArray, List.set_cons_zero, List.set_cons_succ])
        refine wpAnyH_take (i := 7) (oi := ({ dst := some 20, op := Go.Op.binOp Go.BinOp.sub 3 (Go.Operand.tmp 19) (Go.Operand.const (Go.Value.int Go.IntKind.i64 1)) 3, type := 3, pos := "sort.go:55", after := #[{ on := 6, ground := Go.Ground.data }], guard := none } : Go.Oper)) (v := ?v8) rfl (by kernel_rfl) (by kernel_rfl) (by kernel_rfl) (fun _ _ _ h => h) (Or.inl ⟨by rfl, ?hy8⟩) (by assumption) ?rest8
        case hy8 => (intro w hSw; (try dsimp only at hSw); go_simp; (try with_reducible rfl))
        (try simp only [Act.put, List.getElem_toArray, List.getElem_cons_zero, List.getElem_cons_succ, List.setIfInBounds_toArray, List.set_cons_zero, List.set_cons_succ])
        refine wpAnyH_take (i := 8) (oi := ({ dst := some 21, op := Go.Op.indexAddr 22 (Go.Operand.tmp 18) (Go.Operand.tmp 20), type := 0, pos := "sort.go:55", after := #[{ on := 5, ground := Go.Ground.data }, { on := 7, ground := Go.Ground.data }], guard := none } : Go.Oper)) (v := ?v9) rfl (by kernel_rfl) (by kernel_rfl) (by kernel_rfl) (fun _ _ _ h => h) (Or.inl ⟨by rfl, ?hy9⟩) (by assumption) ?rest9
        case hy9 => (intro w hSw; (try dsimp only at hSw); go_simp; (try with_reducible rfl))
        (try simp only [Act.put, List.getElem_toArray, List.getElem_cons_zero, List.getElem_cons_succ, List.setIfInBounds_toArray, List.set_cons_zero, List.set_cons_succ])
        refine wpAnyH_take (i := 9) (oi := ({ dst := some 22, op := Go.Op.load 37 (Go.Operand.tmp 21), type := 37, pos := "sort.go:55", after := #[{ on := 8, ground := Go.Ground.data }], guard := none } : Go.Oper)) (v := ?v10) rfl (by kernel_rfl) (by kernel_rfl) (by kernel_rfl) (fun _ _ _ h => h) (Or.inl ⟨by rfl, ?hy10⟩) (by assumption) ?rest10
        case hy10 => (intro w hSw; (try dsimp only at hSw); go_simp; (try with_reducible rfl))
        (try simp only [Act.put, List.getElem_toArray, List.getElem_cons_zero, List.getElem_cons_succ, List.setIfInBounds_toArray, List.set_cons_zero, List.set_cons_succ])
        refine wpAnyH_ready (rs := [10]) (by kernel_rfl) (by simp) ?_
        refine AllReadyH.cons (o := ({ dst := some 23, op := Go.Op.call { callee := Go.Callee.value (Go.Operand.tmp 13), args := #[Go.Operand.tmp 17, Go.Operand.tmp 22], argTypes := #[37, 37] }, type := 3, pos := "sort.go:55", after := #[{ on := 0, ground := Go.Ground.data }, { on := 4, ground := Go.Ground.data }, { on := 9, ground := Go.Ground.data }], guard := none } : Go.Oper)) rfl (fun K hK => ?_) AllReadyH.nil
        go_simp
        (go_at_call 25; go_must (refine (rising1_any _ _ y x _ (HR2.out.ext (by with_reducible (repeat (first | exact Ext.rfl_ _ | assumption | refine Ext.drew ?_ | refine Ext.drewN ?_ _ | refine Ext.alloc ?_ _ | refine Ext.trans ?_ (by assumption))))) (HR1.out.ext (by with_reducible (repeat (first | exact Ext.rfl_ _ | assumption | refine Ext.drew ?_ | refine Ext.drewN ?_ _ | refine Ext.alloc ?_ _ | refine Ext.trans ?_ (by assumption)))))).mono ?_); rintro e w4 ⟨rfl, hw4⟩)
        (try (go_wp2_with fail))
        refine hK.out _ _ (by (try dsimp only); exact HS.out _ (by with_reducible (repeat (first | exact Ext.rfl_ _ | assumption | refine Ext.drew ?_ | refine Ext.drewN ?_ _ | refine Ext.alloc ?_ _ | refine Ext.trans ?_ (by assumption))))) (fun hHeld => ?_)
        clear hK K
        (try simp only [Act.put, List.getElem_toArray, List.getElem_cons_zero, List.getElem_cons_succ, List.setIfInBounds_toArray, List.set_cons_zero, List.set_cons_succ])
        refine wpAnyH_take (i := 11) (oi := ({ dst := some 24, op := Go.Op.binOp Go.BinOp.lss 3 (Go.Operand.tmp 23) (Go.Operand.const (Go.Value.int Go.IntKind.i64 0)) 3, type := 4, pos := "sort.go:55", after := #[{ on := 10, ground := Go.Ground.data }], guard := none } : Go.Oper)) (v := ?v11) rfl (by kernel_rfl) (by kernel_rfl) (by kernel_rfl) (fun _ _ _ h => h) (Or.inl ⟨by rfl, ?hy11⟩) (by assumption) ?rest11
        case hy11 => (intro w hSw; (try dsimp only at hSw); go_simp; (try with_reducible rfl))
        (try simp only [Act.put, List.getElem_toArray, List.getElem_cons_zero, List.getElem_cons_succ, List.setIfInBounds_toArray, List.set_cons_zero, List.set_cons_succ])
        refine wpAnyH_done (by kernel_rfl) ?_ _
        go_wp2
        go_roundw
        case rel =>
          refine ⟨(k : Int), by go_num, by omega, by omega, Lib.hid (fun j hj hjk => ?_), (by with_reducible (repeat (first | exact Ext.rfl_ _ | assumption | refine Ext.drew ?_ | refine Ext.drewN ?_ _ | refine Ext.alloc ?_ _ | refine Ext.trans ?_ (by assumption))))⟩
          by_cases hjk2 : j = k
          · subst hjk2; rw [EX.out, EY.out]; exact HXY.out
          · exact h1.out j hj (by omega)
        case measure => simp [intOf]; omega
      · have hd : decide (cmpR y x < 0) = true := decide_eq_true ((cmpR_neg x y).2 hxy)
        have HR : Hid (false = decide (ordP xs)) := Lib.hid (decide_eq_false (fun h => hxy (by have := h k hkx; rwa [EX.out, EY.out] at this))).symm
        clear hxy
        go_wp2
        refine wp_region_held_drew (S := (fun W => (W.cell? ⟨b, o + k * 4, none⟩ = some (.slice A1 n1 c1') ∧ W.cell? ⟨b, o + k * 4 + 1, none⟩ = some (.int .i64 x.seq) ∧ W.cell? ⟨b, o + k * 4 + 2, none⟩ = some (.int .i64 x.kind) ∧ W.cell? ⟨b, o + k * 4 + 3, none⟩ = some (.slice A2 n2 c2')) ∧ (W.cell? ⟨b, o + (k + 1) * 4, none⟩ = some (.slice A1' n1' d1') ∧ W.cell? ⟨b, o + (k + 1) * 4 + 1, none⟩ = some (.int .i64 y.seq) ∧ W.cell? ⟨b, o + (k + 1) * 4 + 2, none⟩ = some (.int .i64 y.kind) ∧ W.cell? ⟨b, o + (k + 1) * 4 + 3, none⟩ = some (.slice A2' n2' d2')))) (by kernel_rfl) (by (try dsimp only); exact HS.out _ (by with_reducible (repeat (first | exact Ext.rfl_ _ | assumption | refine Ext.drew ?_ | refine Ext.drewN ?_ _ | refine Ext.alloc ?_ _ | refine Ext.trans ?_ (by assumption))))) (fun hHeld => ?_)
        refine wpAnyH_take (i := 0) (oi := ({ dst := some 13, op := Go.Op.move (Go.Operand.tmp 1), type := 53, pos := "sort.go:55", after := #[], guard := none } : Go.Oper)) (v := ?v12) rfl (by kernel_rfl) (by kernel_rfl) (by kernel_rfl) (fun _ _ _ h => h) (Or.inl ⟨by rfl, ?hy12⟩) (by assumption) ?rest12
        case hy12 => (intro w hSw; (try dsimp only at hSw); go_simp; (try with_reducible rfl))
        (try simp only [Act.put, List.getElem_toArray, List.getElem_cons_zero, List.getElem_cons_succ, List.setIfInBounds_toArray, List.set_cons_zero, List.set_cons_succ])
        refine wpAnyH_take (i := 1) (oi := ({ dst := some 14, op := Go.Op.move (Go.Operand.tmp 0), type := 22, pos := "sort.go:55", after := #[], guard := none } : Go.Oper)) (v := ?v13) rfl (by kernel_rfl) (by kernel_rfl) (by kernel_rfl) (fun _ _ _ h => h) (Or.inl ⟨by rfl, ?hy13⟩) (by assumption) ?rest13
        case hy13 => (intro w hSw; (try dsimp only at hSw); go_simp; (try with_reducible rfl))
        (try simp only [Act.put, List.getElem_toArray, List.getElem_cons_zero, List.getElem_cons_succ, List.setIfInBounds_toArray, List.set_cons_zero, List.set_cons_succ])
        refine wpAnyH_take (i := 2) (oi := ({ dst := some 15, op := Go.Op.move (Go.Operand.tmp 5), type := 3, pos := "sort.go:55", after := #[], guard := none } : Go.Oper)) (v := ?v14) rfl (by kernel_rfl) (by kernel_rfl) (by kernel_rfl) (fun _ _ _ h => h) (Or.inl ⟨by rfl, ?hy14⟩) (by assumption) ?rest14
        case hy14 => (intro w hSw; (try dsimp only at hSw); go_simp; (try with_reducible rfl))
        (try simp only [Act.put, List.getElem_toArray, List.getElem_cons_zero, List.getElem_cons_succ, List.setIfInBounds_toArray, List.set_cons_zero, List.set_cons_succ])
        refine wpAnyH_take (i := 3) (oi := ({ dst := some 16, op := Go.Op.indexAddr 22 (Go.Operand.tmp 14) (Go.Operand.tmp 15), type := 0, pos := "sort.go:55", after := #[{ on := 1, ground := Go.Ground.data }, { on := 2, ground := Go.Ground.data }], guard := none } : Go.Oper)) (v := ?v15) rfl (by kernel_rfl) (by kernel_rfl) (by kernel_rfl) (fun _ _ _ h => h) (Or.inl ⟨by rfl, ?hy15⟩) (by assumption) ?rest15
        case hy15 => (intro w hSw; (try dsimp only at hSw); go_simp; (try with_reducible rfl))
        (try simp only [Act.put, List.getElem_toArray, List.getElem_cons_zero, List.getElem_cons_succ, List.setIfInBounds_toArray, List.set_cons_zero, List.set_cons_succ])
        refine wpAnyH_take (i := 4) (oi := ({ dst := some 17, op := Go.Op.load 37 (Go.Operand.tmp 16), type := 37, pos := "sort.go:55", after := #[{ on := 3, ground := Go.Ground.data }], guard := none } : Go.Oper)) (v := ?v16) rfl (by kernel_rfl) (by kernel_rfl) (by kernel_rfl) (fun _ _ _ h => h) (Or.inl ⟨by rfl, ?hy16⟩) (by assumption) ?rest16
        case hy16 => (intro w hSw; (try dsimp only at hSw); go_simp; (try with_reducible rfl))
        (try simp only [Act.put, List.getElem_toArray, List.getElem_cons_zero, List.getElem_cons_succ, List.setIfInBounds_toArray, List.set_cons_zero, List.set_cons_succ])
        refine wpAnyH_take (i := 5) (oi := ({ dst := some 18, op := Go.Op.move (Go.Operand.tmp 0), type := 22, pos := "sort.go:55", after := #[], guard := none } : Go.Oper)) (v := ?v17) rfl (by kernel_rfl) (by kernel_rfl) (by kernel_rfl) (fun _ _ _ h => h) (Or.inl ⟨by rfl, ?hy17⟩) (by assumption) ?rest17
        case hy17 => (intro w hSw; (try dsimp only at hSw); go_simp; (try with_reducible rfl))
        (try simp only [Act.put, List.getElem_toArray, List.getElem_cons_zero, List.getElem_cons_succ, List.setIfInBounds_toArray, List.set_cons_zero, List.set_cons_succ])
        refine wpAnyH_take (i := 6) (oi := ({ dst := some 19, op := Go.Op.move (Go.Operand.tmp 5), type := 3, pos := "sort.go:55", after := #[], guard := none } : Go.Oper)) (v := ?v18) rfl (by kernel_rfl) (by kernel_rfl) (by kernel_rfl) (fun _ _ _ h => h) (Or.inl ⟨by rfl, ?hy18⟩) (by assumption) ?rest18
        case hy18 => (intro w hSw; (try dsimp only at hSw); go_simp; (try with_reducible rfl))
        (try simp only [Act.put, List.getElem_toArray, List.getElem_cons_zero, List.getElem_cons_succ, List.setIfInBounds_toArray, List.set_cons_zero, List.set_cons_succ])
        refine wpAnyH_take (i := 7) (oi := ({ dst := some 20, op := Go.Op.binOp Go.BinOp.sub 3 (Go.Operand.tmp 19) (Go.Operand.const (Go.Value.int Go.IntKind.i64 1)) 3, type := 3, pos := "sort.go:55", after := #[{ on := 6, ground := Go.Ground.data }], guard := none } : Go.Oper)) (v := ?v19) rfl (by kernel_rfl) (by kernel_rfl) (by kernel_rfl) (fun _ _ _ h => h) (Or.inl ⟨by rfl, ?hy19⟩) (by assumption) ?rest19
        case hy19 => (intro w hSw; (try dsimp only at hSw); go_simp; (try with_reducible rfl))
        (try simp only [Act.put, List.getElem_toArray, List.getElem_cons_zero, List.getElem_cons_succ, List.setIfInBounds_toArray, List.set_cons_zero, List.set_cons_succ])
        refine wpAnyH_take (i := 8) (oi := ({ dst := some 21, op := Go.Op.indexAddr 22 (Go.Operand.tmp 18) (Go.Operand.tmp 20), type := 0, pos := "sort.go:55", after := #[{ on := 5, ground := Go.Ground.data }, { on := 7, ground := Go.Ground.data }], guard := none } : Go.Oper)) (v := ?v20) rfl (by kernel_rfl) (by kernel_rfl) (by kernel_rfl) (fun _ _ _ h => h) (Or.inl ⟨by rfl, ?hy20⟩) (by assumption) ?rest20
        case hy20 => (intro w hSw; (try dsimp only at hSw); go_simp; (try with_reducible rfl))
        (try simp only [Act.put, List.getElem_toArray, List.getElem_cons_zero, List.getElem_cons_succ, List.setIfInBounds_toArray, List.set_cons_zero, List.set_cons_succ])
        refine wpAnyH_take (i := 9) (oi := ({ dst := some 22, op := Go.Op.load 37 (Go.Operand.tmp 21), type := 37, pos := "sort.go:55", after := #[{ on := 8, ground := Go.Ground.data }], guard := none } : Go.Oper)) (v := ?v21) rfl (by kernel_rfl) (by kernel_rfl) (by kernel_rfl) (fun _ _ _ h => h) (Or.inl ⟨by rfl, ?hy21⟩) (by assumption) ?rest21
        case hy21 => (intro w hSw; (try dsimp only at hSw); go_simp; (try with_reducible rfl))
        (try simp only [Act.put, List.getElem_toArray, List.getElem_cons_zero, List.getElem_cons_succ, List.setIfInBounds_toArray, List.set_cons_zero, List.set_cons_succ])
        refine wpAnyH_ready (rs := [10]) (by kernel_rfl) (by simp) ?_
        refine AllReadyH.cons (o := ({ dst := some 23, op := Go.Op.call { callee := Go.Callee.value (Go.Operand.tmp 13), args := #[Go.Operand.tmp 17, Go.Operand.tmp 22], argTypes := #[37, 37] }, type := 3, pos := "sort.go:55", after := #[{ on := 0, ground := Go.Ground.data }, { on := 4, ground := Go.Ground.data }, { on := 9, ground := Go.Ground.data }], guard := none } : Go.Oper)) rfl (fun K hK => ?_) AllReadyH.nil
        go_simp
        (go_at_call 25; go_must (refine (rising1_any _ _ y x _ (HR2.out.ext (by with_reducible (repeat (first | exact Ext.rfl_ _ | assumption | refine Ext.drew ?_ | refine Ext.drewN ?_ _ | refine Ext.alloc ?_ _ | refine Ext.trans ?_ (by assumption))))) (HR1.out.ext (by with_reducible (repeat (first | exact Ext.rfl_ _ | assumption | refine Ext.drew ?_ | refine Ext.drewN ?_ _ | refine Ext.alloc ?_ _ | refine Ext.trans ?_ (by assumption)))))).mono ?_); rintro e w4 ⟨rfl, hw4⟩)
        (try (go_wp2_with fail))
        refine hK.out _ _ (by (try dsimp only); exact HS.out _ (by with_reducible (repeat (first | exact Ext.rfl_ _ | assumption | refine Ext.drew ?_ | refine Ext.drewN ?_ _ | refine Ext.alloc ?_ _ | refine Ext.trans ?_ (by assumption))))) (fun hHeld => ?_)
        clear hK K
        (try simp only [Act.put, List.getElem_toArray, List.getElem_cons_zero, List.getElem_cons_succ, List.setIfInBounds_toArray, List.set_cons_zero, List.set_cons_succ])
        refine wpAnyH_take (i := 11) (oi := ({ dst := some 24, op := Go.Op.binOp Go.BinOp.lss 3 (Go.Operand.tmp 23) (Go.Operand.const (Go.Value.int Go.IntKind.i64 0)) 3, type := 4, pos := "sort.go:55", after := #[{ on := 10, ground := Go.Ground.data }], guard := none } : Go.Oper)) (v := ?v22) rfl (by kernel_rfl) (by kernel_rfl) (by kernel_rfl) (fun _ _ _ h => h) (Or.inl ⟨by rfl, ?hy22⟩) (by assumption) ?rest22
        case hy22 => (intro w hSw; (try dsimp only at hSw); go_simp; (try with_reducible rfl))
        (try simp only [Act.put, List.getElem_toArray, List.getElem_cons_zero, List.getElem_cons_succ, List.setIfInBounds_toArray, List.set_cons_zero, List.set_cons_succ])
        refine wpAnyH_done (by kernel_rfl) ?_ _
        go_wp2
        go_ret
        exact ⟨ret_bool HR.out, (by with_reducible (repeat (first | exact Ext.rfl_ _ | assumption | refine Ext.drew ?_ | refine Ext.drewN ?_ _ | refine Ext.alloc ?_ _ | refine Ext.trans ?_ (by assumption))))⟩
    · have HR : Hid (true = decide (ordP xs)) := Lib.hid (decide_eq_true (p := ordP xs) (fun j hj => h1.out j hj (by omega))).symm
      go_wp2
      go_ret
      exact ⟨ret_bool HR.out, hE⟩

set_option maxRecDepth 100000 in
theorem mrising_any (gf : Nat) (lb : Array Value) (es : List Ent) (w : World) (hit : Iter gf lb es w) (hes : es.length ≤ 1000000) :
    Calls Try.prog 11 #[.func (.func gf) #[] lb] w fun e w' => e = .returned (.bool (decide (ordP es))) ∧ Ext w w' := by
  go_enter Try.func11, Try.ntmps11
  go_wp2_with fail
  refine (collect_it hit (Ext.rfl_ _) hes).mono ?_
  rintro e w1 ⟨v, rfl, hO, hw1⟩
  obtain ⟨A, n, c, rfl, hc, hr, _⟩ := hO.ownL.formN (by unfold B41; omega)
  clear hO
  go_wp2_with fail
  refine (sorted_any A n c es _ hr hc).mono ?_
  rintro e w2 ⟨rfl, hw2⟩
  go_wp2
  go_ret
  exact ⟨rfl, hw1.trans hw2⟩

end Go.Proofs.Ytmmoopioiheleaa
