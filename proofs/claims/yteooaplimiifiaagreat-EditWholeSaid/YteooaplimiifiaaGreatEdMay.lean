/- Versions in memory; which may be, plainly; edit.May. Conditions: the version reads. -/
import Derived.Test.YteooaplimiifiaaGreatTabR
import Derived.Test.YteooaplimiifiaaGreatSetM
namespace Go.Proofs.YteooaplimiifiaaGreat
set_option linter.unusedSimpArgs false
set_option linter.unusedVariables false
set_option maxRecDepth 100000
open Go.RowKit

structure Ver where
  next : Int
  log : Int
  index : Int
  seq : Int
  ts : List Tab
deriving DecidableEq

/-- A value of type api.Version that reads as x. -/
def RdV (w : World) (v : Value) (x : Ver) : Prop :=
  ∃ A n c, v = .agg #[.int .i64 x.next, .int .i64 x.log, .int .i64 x.index, .int .i64 x.seq, .slice A n c] ∧ RdLT w A n x.ts ∧ n ≤ c
theorem RdV.ext {w w' : World} {v : Value} {x : Ver} (h : RdV w v x) (he : Ext w w') : RdV w' v x := by
  obtain ⟨A, n, c, rfl, h1, h2⟩ := h
  exact ⟨A, n, c, rfl, h1.ext he, h2⟩

def headT (x : Ver) : Prop := numT x.next 1 = true ∧ numT x.log 0 = true ∧ numT x.index 0 = true ∧ numT x.seq 0 = true ∧ x.log < x.next
def okT (x : Ver) (t : Tab) : Prop := placeT t = true ∧ t.num < x.next ∧ t.num ≠ x.log
def stepT (p t : Tab) : Prop := ordT p t < 0 ∧ ¬ (p.lvl = t.lvl ∧ t.lvl > 0 ∧ 0 ≤ cmpK p.lst t.fst)
def goodT (x : Ver) (k : Nat) : Prop := ∀ i t, i < k → x.ts[i]? = some t → okT x t ∧ (∀ j u, j < i → x.ts[j]? = some u → u.num ≠ t.num) ∧ (∀ j p, i = j + 1 → x.ts[j]? = some p → stepT p t)
def MayT (x : Ver) : Prop := headT x ∧ goodT x x.ts.length
noncomputable def mayT (x : Ver) : Bool := @decide (MayT x) (Classical.propDecidable _)
theorem mayT_yes {x : Ver} (h : MayT x) : true = mayT x := by unfold mayT; exact (@decide_eq_true _ (Classical.propDecidable _) h).symm
theorem mayT_no {x : Ver} (h : ¬ MayT x) : false = mayT x := by unfold mayT; exact (@decide_eq_false _ (Classical.propDecidable _) h).symm
theorem mayT_iff (x : Ver) : mayT x = true ↔ MayT x := by
  by_cases h : MayT x
  · simp [← mayT_yes h, h]
  · simp [← mayT_no h, h]

/-- The numbers of the first k tables. -/
def numsT (x : Ver) (k : Nat) : List Int := (x.ts.take k).map Tab.num
theorem numsT_zero (x : Ver) : numsT x 0 = [] := by simp [numsT]
theorem numsT_succ {x : Ver} {k : Nat} {t : Tab} (h : x.ts[k]? = some t) : numsT x (k + 1) = numsT x k ++ [t.num] := by
  obtain ⟨hk, e⟩ := List.getElem?_eq_some_iff.1 h
  simp [numsT, List.take_succ_eq_append_getElem hk, e]
theorem numsT_mem {x : Ver} {k : Nat} {z : Int} (h : z ∈ numsT x k) : ∃ j u, j < k ∧ x.ts[j]? = some u ∧ u.num = z := by
  obtain ⟨u, hu, rfl⟩ := List.mem_map.1 h
  obtain ⟨j, hj, e⟩ := List.mem_iff_getElem.1 hu
  rw [List.length_take] at hj
  refine ⟨j, u, by omega, ?_, rfl⟩
  rw [List.getElem_take] at e
  rw [← e]
  exact List.getElem?_eq_getElem (by omega)
theorem numsT_of {x : Ver} {k j : Nat} {u : Tab} (hj : j < k) (h : x.ts[j]? = some u) : u.num ∈ numsT x k := by
  obtain ⟨hl, e⟩ := List.getElem?_eq_some_iff.1 h
  refine List.mem_map.2 ⟨u, List.mem_iff_getElem.2 ⟨j, by rw [List.length_take]; omega, ?_⟩, rfl⟩
  rw [List.getElem_take]
  exact e
theorem numsT_length (x : Ver) (k : Nat) (h : k ≤ x.ts.length) : (numsT x k).length = k := by simp [numsT]; omega

theorem goodT_zero (x : Ver) : goodT x 0 := fun i t h => absurd h (by omega)
theorem goodT_succ {x : Ver} {k : Nat} {t : Tab} (h : goodT x k) (ht : x.ts[k]? = some t) (h1 : okT x t) (h2 : t.num ∉ numsT x k) (h3 : ∀ j p, k = j + 1 → x.ts[j]? = some p → stepT p t) : goodT x (k + 1) := by
  intro i u hi hu
  by_cases e : i = k
  · subst e
    rw [ht] at hu
    cases hu
    exact ⟨h1, fun j v hj hv e => h2 (by rw [← e]; exact numsT_of hj hv), h3⟩
  · exact h i u (by omega) hu
theorem may_bad {x : Ver} {k : Nat} {t : Tab} (ht : x.ts[k]? = some t) (h : ¬ (okT x t ∧ t.num ∉ numsT x k ∧ ∀ j p, k = j + 1 → x.ts[j]? = some p → stepT p t)) : false = mayT x := mayT_no (fun ⟨_, hg⟩ => h (by
  have hk := (List.getElem?_eq_some_iff.1 ht).1
  obtain ⟨h1, h2, h3⟩ := hg k t hk ht
  refine ⟨h1, fun hm => ?_, h3⟩
  obtain ⟨j, u, hj, hu, e⟩ := numsT_mem hm
  exact h2 j u hj hu e))

set_option maxRecDepth 100000 in
set_option maxHeartbeats 8000000 in
theorem emay_any (v : Value) (x : Ver) (w : World) (hv : RdV w v x) (hsz : x.ts.length ≤ 1000000) :
    Calls Tryz.prog 13 #[v] w fun e w' => e = .returned (.bool (mayT x)) ∧ Ext w w' := by
  obtain ⟨A, n, c, rfl, hl, hnc⟩ := hv
  obtain rfl : x.ts.length = n := hl.1
  have HL := Lib.hid hl
  have HB := Lib.hid (heap_alloc_new w (.cells #[.int .i64 x.next, .int .i64 x.log, .int .i64 x.index, .int .i64 x.seq, .slice A x.ts.length c] 24))
  have HSZ := Lib.hid hsz
  clear hl hsz

  by_cases a0 : numT x.next 1 = true
  rotate_left
  · have HR : Hid (false = mayT x) := Lib.hid (mayT_no fun h => a0 h.1.1)
    have n0 : numT x.next 1 = false := by simpa using a0
    clear a0
    go_enter Tryz.func13, Tryz.ntmps13
    go_wp2_with (go_at_call 22; refine (enumber_any _ _ _).mono ?_; rintro e w1 ⟨rfl, rfl⟩; first | rw [n0] | rw [n1] | rw [n2] | rw [n3])
    go_ret
    exact ⟨ret_bool HR.out, (by with_reducible (repeat (first | exact Ext.rfl_ _ | assumption | refine Ext.drew ?_ | refine Ext.drewN ?_ _ | refine Ext.alloc ?_ _ | refine Ext.trans ?_ (by assumption))))⟩
  have n0 := a0
  by_cases a1 : numT x.log 0 = true
  rotate_left
  · have HR : Hid (false = mayT x) := Lib.hid (mayT_no fun h => a1 h.1.2.1)
    have n1 : numT x.log 0 = false := by simpa using a1
    clear a1
    go_enter Tryz.func13, Tryz.ntmps13
    go_wp2_with (go_at_call 22; refine (enumber_any _ _ _).mono ?_; rintro e w1 ⟨rfl, rfl⟩; first | rw [n0] | rw [n1] | rw [n2] | rw [n3])
    go_ret
    exact ⟨ret_bool HR.out, (by with_reducible (repeat (first | exact Ext.rfl_ _ | assumption | refine Ext.drew ?_ | refine Ext.drewN ?_ _ | refine Ext.alloc ?_ _ | refine Ext.trans ?_ (by assumption))))⟩
  have n1 := a1
  by_cases a2 : numT x.index 0 = true
  rotate_left
  · have HR : Hid (false = mayT x) := Lib.hid (mayT_no fun h => a2 h.1.2.2.1)
    have n2 : numT x.index 0 = false := by simpa using a2
    clear a2
    go_enter Tryz.func13, Tryz.ntmps13
    go_wp2_with (go_at_call 22; refine (enumber_any _ _ _).mono ?_; rintro e w1 ⟨rfl, rfl⟩; first | rw [n0] | rw [n1] | rw [n2] | rw [n3])
    go_ret
    exact ⟨ret_bool HR.out, (by with_reducible (repeat (first | exact Ext.rfl_ _ | assumption | refine Ext.drew ?_ | refine Ext.drewN ?_ _ | refine Ext.alloc ?_ _ | refine Ext.trans ?_ (by assumption))))⟩
  have n2 := a2
  by_cases a3 : numT x.seq 0 = true
  rotate_left
  · have HR : Hid (false = mayT x) := Lib.hid (mayT_no fun h => a3 h.1.2.2.2.1)
    have n3 : numT x.seq 0 = false := by simpa using a3
    clear a3
    go_enter Tryz.func13, Tryz.ntmps13
    go_wp2_with (go_at_call 22; refine (enumber_any _ _ _).mono ?_; rintro e w1 ⟨rfl, rfl⟩; first | rw [n0] | rw [n1] | rw [n2] | rw [n3])
    go_ret
    exact ⟨ret_bool HR.out, (by with_reducible (repeat (first | exact Ext.rfl_ _ | assumption | refine Ext.drew ?_ | refine Ext.drewN ?_ _ | refine Ext.alloc ?_ _ | refine Ext.trans ?_ (by assumption))))⟩
  have n3 := a3
  by_cases a4 : x.log < x.next
  rotate_left
  · have HR : Hid (false = mayT x) := Lib.hid (mayT_no fun h => a4 h.1.2.2.2.2)
    have n4 : x.log ≥ x.next := by omega
    clear a4
    go_enter Tryz.func13, Tryz.ntmps13
    go_wp2_with (go_at_call 22; refine (enumber_any _ _ _).mono ?_; rintro e w1 ⟨rfl, rfl⟩; first | rw [n0] | rw [n1] | rw [n2] | rw [n3])
    go_ret
    exact ⟨ret_bool HR.out, (by with_reducible (repeat (first | exact Ext.rfl_ _ | assumption | refine Ext.drew ?_ | refine Ext.drewN ?_ _ | refine Ext.alloc ?_ _ | refine Ext.trans ?_ (by assumption))))⟩
  have HH : Hid (headT x) := Lib.hid ⟨a0, a1, a2, a3, a4⟩
  have n4 : ¬ x.log ≥ x.next := by omega
  clear a0 a1 a2 a3 a4
  obtain ⟨W0, hW0⟩ : ∃ W0, W0 = w.alloc (.cells #[.int .i64 x.next, .int .i64 x.log, .int .i64 x.index, .int .i64 x.seq, .slice A x.ts.length c] 24) := ⟨_, rfl⟩
  have HX0 : Hid (Ext w W0) := Lib.hid (by rw [hW0]; exact (by with_reducible (repeat (first | exact Ext.rfl_ _ | assumption | refine Ext.drew ?_ | refine Ext.drewN ?_ _ | refine Ext.alloc ?_ _ | refine Ext.trans ?_ (by assumption)))))
  have HB0 : Hid (W0.heap[w.heap.size]? = some (.cells #[.int .i64 x.next, .int .i64 x.log, .int .i64 x.index, .int .i64 x.seq, .slice A x.ts.length c] 24)) := Lib.hid (by rw [hW0]; exact HB.out)
  have hs0 : W0.heap.size = w.heap.size + 1 := by rw [hW0, World.size_alloc]
  clear HB
  have hmm := @run_makeMap Tryz.prog
  go_enter Tryz.func13, Tryz.ntmps13
  go_wp2_with (go_at_call 22; refine (enumber_any _ _ _).mono ?_; rintro e w1 ⟨rfl, rfl⟩; first | rw [n0] | rw [n1] | rw [n2] | rw [n3])
  rw [← hW0]
  have HS0 := Lib.hid hs0
  clear hW0 hs0
  go_loopw [40] (fun i wr => ∃ k : Nat, i = .int .i64 k ∧ k ≤ x.ts.length ∧ Ext W0 wr ∧ Hid (SetM wr (w.heap.size + 1) (numsT x k)) ∧ Hid (goodT x k)) (fun i _ => x.ts.length - (intOf i).toNat)
  case atStart => exact ⟨0, rfl, Nat.zero_le _, (by with_reducible (repeat (first | exact Ext.rfl_ _ | assumption | refine Ext.drew ?_ | refine Ext.drewN ?_ _ | refine Ext.alloc ?_ _ | refine Ext.trans ?_ (by assumption)))), Lib.hid (by rw [numsT_zero, ← HS0.out]; exact SetM.made W0), Lib.hid (goodT_zero x)⟩
  case round =>
    obtain ⟨k, rfl, hk, hE, HS, HG⟩ := hrel
    have hq := HSZ.out
    by_cases cc : (k : Int) < (x.ts.length : Int)
    rotate_left
    · have HR : Hid (true = mayT x) := Lib.hid (mayT_yes ⟨HH.out, by have e : k = x.ts.length := (by omega); rw [← e]; exact HG.out⟩)
      go_wp2
      go_ret
      exact ⟨ret_bool HR.out, HX0.out.trans hE⟩
    obtain ⟨b, o, A1, n1', c1, A2, n2', c2, t, rfl, ht, ⟨q0, q1, q2, q3, q4⟩, hr⟩ := (HL.out.ext (HX0.out.trans hE)).at_ k (by omega)
    have HT := Lib.hid hr
    have HT0 := Lib.hid ht
    have HBT := Lib.hid (heap_alloc_new wr (.cells #[.int .i64 t.num, .int .i64 t.lvl, .slice A1 n1' c1, .slice A2 n2' c2, .int .i64 t.size] 42))
    have hI : I64 t.num := by
      obtain ⟨_, _, _, _, _, _, _, _, _, _, _, _, _, h, _⟩ := hr
      exact h
    have HI := Lib.hid hI
    obtain ⟨v0, v1, v2, v3, v4, _⟩ := box5 HB0.out hE
    have XA : Hid (Ext W0 (wr.alloc (.cells #[.int .i64 t.num, .int .i64 t.lvl, .slice A1 n1' c1, .slice A2 n2' c2, .int .i64 t.size] 42))) := Lib.hid (hE.alloc _)
    clear hr ht hI
    by_cases b1 : placeT t = true
    rotate_left
    · have HR : Hid (false = mayT x) := Lib.hid (may_bad HT0.out fun h => b1 h.1.1)
      have d1 : placeT t = false := by simpa using b1
      clear b1
      go_wp2_with (first | (go_at_call 27; refine (place_any _ t _ (HT.out.ext (by with_reducible (repeat (first | exact Ext.rfl_ _ | assumption | refine Ext.drew ?_ | refine Ext.drewN ?_ _ | refine Ext.alloc ?_ _ | refine Ext.trans ?_ (by assumption)))))).mono ?_; rintro e w1 ⟨rfl, hw1⟩; rw [d1]; obtain ⟨v0, v1, v2, v3, v4, _⟩ := box5 HB0.out (w' := w1) (XA.out.trans hw1); obtain ⟨u0, u1, u2, u3, u4, _⟩ := box5 HBT.out (w' := w1) hw1; have HS1 := Lib.hid (HS.out.ext ((Ext.alloc (Ext.rfl_ wr) _).trans hw1))))
      go_ret
      exact ⟨ret_bool HR.out, HX0.out.trans (XA.out.trans hw1)⟩
    have d1 := b1
    by_cases b2 : t.num < x.next
    rotate_left
    · have HR : Hid (false = mayT x) := Lib.hid (may_bad HT0.out fun h => b2 h.1.2.1)
      have d2 : t.num ≥ x.next := by omega
      clear b1 b2
      go_wp2_with (first | (go_at_call 27; refine (place_any _ t _ (HT.out.ext (by with_reducible (repeat (first | exact Ext.rfl_ _ | assumption | refine Ext.drew ?_ | refine Ext.drewN ?_ _ | refine Ext.alloc ?_ _ | refine Ext.trans ?_ (by assumption)))))).mono ?_; rintro e w1 ⟨rfl, hw1⟩; rw [d1]; obtain ⟨v0, v1, v2, v3, v4, _⟩ := box5 HB0.out (w' := w1) (XA.out.trans hw1); obtain ⟨u0, u1, u2, u3, u4, _⟩ := box5 HBT.out (w' := w1) hw1; have HS1 := Lib.hid (HS.out.ext ((Ext.alloc (Ext.rfl_ wr) _).trans hw1))))
      go_ret
      exact ⟨ret_bool HR.out, HX0.out.trans (XA.out.trans hw1)⟩
    have d2 : ¬ t.num ≥ x.next := by omega
    have d2' : decide (x.next ≤ t.num) = false := decide_eq_false (by omega)
    by_cases b3 : t.num = x.log
    · have HR : Hid (false = mayT x) := Lib.hid (may_bad HT0.out fun h => h.1.2.2 b3)
      have d3 : (t.num == x.log) = true := by simp [b3]
      clear b1 b2 b3
      go_wp2_with (first | (go_at_call 27; refine (place_any _ t _ (HT.out.ext (by with_reducible (repeat (first | exact Ext.rfl_ _ | assumption | refine Ext.drew ?_ | refine Ext.drewN ?_ _ | refine Ext.alloc ?_ _ | refine Ext.trans ?_ (by assumption)))))).mono ?_; rintro e w1 ⟨rfl, hw1⟩; rw [d1]; obtain ⟨v0, v1, v2, v3, v4, _⟩ := box5 HB0.out (w' := w1) (XA.out.trans hw1); obtain ⟨u0, u1, u2, u3, u4, _⟩ := box5 HBT.out (w' := w1) hw1; have HS1 := Lib.hid (HS.out.ext ((Ext.alloc (Ext.rfl_ wr) _).trans hw1))))
      go_ret
      exact ⟨ret_bool HR.out, HX0.out.trans (XA.out.trans hw1)⟩
    have d3 : (t.num == x.log) = false := by simp [b3]
    have HO : Hid (okT x t) := Lib.hid ⟨b1, b2, b3⟩
    clear b1 b2 b3
    by_cases b4 : t.num ∈ numsT x k
    · have HR : Hid (false = mayT x) := Lib.hid (may_bad HT0.out fun h => h.2.1 b4)
      have d4 := decide_eq_true b4
      clear b4
      go_wp2_with (first | (go_at_call 27; refine (place_any _ t _ (HT.out.ext (by with_reducible (repeat (first | exact Ext.rfl_ _ | assumption | refine Ext.drew ?_ | refine Ext.drewN ?_ _ | refine Ext.alloc ?_ _ | refine Ext.trans ?_ (by assumption)))))).mono ?_; rintro e w1 ⟨rfl, hw1⟩; rw [d1]; obtain ⟨v0, v1, v2, v3, v4, _⟩ := box5 HB0.out (w' := w1) (XA.out.trans hw1); obtain ⟨u0, u1, u2, u3, u4, _⟩ := box5 HBT.out (w' := w1) hw1; have HS1 := Lib.hid (HS.out.ext ((Ext.alloc (Ext.rfl_ wr) _).trans hw1))) | (at_lookup; refine wp_setLook rfl _ _ rfl (w.heap.size + 1) (numsT x k) HS1.out rfl t.num HI.out rfl ?_; rw [d4]; refine wp_setIs rfl _ rfl _ rfl ?_))
      go_ret
      exact ⟨ret_bool HR.out, HX0.out.trans (XA.out.trans hw1)⟩
    have d4 := decide_eq_false b4
    have HN4 := Lib.hid b4
    have HNE : Hid (wr.heap.size ≠ w.heap.size + 1) := Lib.hid (fun e => by have := HS.out.lt; omega)
    clear b4
    by_cases k0 : k = 0
    · have hkz : ((k : Int) == 0) = true := by simp [k0]
      have HK0 := Lib.hid k0
      clear k0
      go_wp2_with (first | (go_at_call 27; refine (place_any _ t _ (HT.out.ext (by with_reducible (repeat (first | exact Ext.rfl_ _ | assumption | refine Ext.drew ?_ | refine Ext.drewN ?_ _ | refine Ext.alloc ?_ _ | refine Ext.trans ?_ (by assumption)))))).mono ?_; rintro e w1 ⟨rfl, hw1⟩; rw [d1]; obtain ⟨v0, v1, v2, v3, v4, _⟩ := box5 HB0.out (w' := w1) (XA.out.trans hw1); obtain ⟨u0, u1, u2, u3, u4, _⟩ := box5 HBT.out (w' := w1) hw1; have HS1 := Lib.hid (HS.out.ext ((Ext.alloc (Ext.rfl_ wr) _).trans hw1))) | (at_lookup; refine wp_setLook rfl _ _ rfl (w.heap.size + 1) (numsT x k) HS1.out rfl t.num HI.out rfl ?_; rw [d4]; refine wp_setIs rfl _ rfl _ rfl ?_) | (at_mapUpdate; refine wp_setPut rfl _ _ _ rfl (w.heap.size + 1) (numsT x k) HS1.out rfl t.num HI.out rfl rfl (by rw [numsT_length x k hk]; exact Nat.le_trans hk HSZ.out) HN4.out ?_; intro w2 s2 g2; have HS2 := Lib.hid s2; have X2 : Hid (Ext W0 w2) := Lib.hid ((XA.out.trans hw1).grown g2 (fun j e => by cases e; exact Nat.le_of_eq HS0.out)); have hb2 : w2.heap[wr.heap.size]? = some (.cells #[.int .i64 t.num, .int .i64 t.lvl, .slice A1 n1' c1, .slice A2 n2' c2, .int .i64 t.size] 42) := ((g2.block _ (Nat.lt_of_lt_of_le (by rw [World.size_alloc]; exact Nat.lt_succ_self _) hw1.size) (fun e => HNE.out (Option.some.inj e))).trans ((Ext.below hw1).block _ (by rw [World.size_alloc]; exact Nat.lt_succ_self _))).trans HBT.out; have HB2 := Lib.hid hb2; obtain ⟨z0, z1, z2, z3, z4, _⟩ := box5 hb2 (Ext.rfl_ w2); obtain ⟨v0, v1, v2, v3, v4, _⟩ := box5 HB0.out X2.out; have l2 : wr.heap.size < w2.heap.size := (Array.getElem?_eq_some_iff.1 hb2).1; have l3 : w.heap.size < w2.heap.size := (by have h1 := HS0.out; have h2 := X2.out.size; omega); clear s2 g2 hb2))
      go_roundw
      case rel => exact ⟨k + 1, by simp, by omega, X2.out, Lib.hid (by rw [numsT_succ HT0.out]; exact HS2.out), Lib.hid (goodT_succ HG.out HT0.out HO.out HN4.out (fun j p e => by have := HK0.out; omega))⟩
      case measure => simp [intOf]; omega
    · obtain ⟨j, hj⟩ : ∃ j, k = j + 1 := ⟨k - 1, by omega⟩
      have HJ := Lib.hid hj
      have hkk : ((k : Int) == 0) = false := by simp; omega
      have hk63 := HSZ.out
      have hwr : IntKind.i64.wrap ((k : Int) - 1) = (j : Int) := by rw [IntKind.wrap_i64]; omega
      have hkl : (j : Int) < (x.ts.length : Int) := by omega
      obtain ⟨b', o', A3, n3', c3, A4, n4', c4, pt, hbb, hpt, ⟨_, _, _, _, _⟩, hrp⟩ := HL.out.at_ j (by omega)
      cases hbb
      have HP0 := Lib.hid hpt
      have HPL : Hid (∀ Z, Ext W0 Z → (Z.cell? ⟨b, o + j * 5, none⟩ = some (.int .i64 pt.num) ∧ Z.cell? ⟨b, o + j * 5 + 1, none⟩ = some (.int .i64 pt.lvl) ∧ Z.cell? ⟨b, o + j * 5 + 2, none⟩ = some (.slice A3 n3' c3) ∧ Z.cell? ⟨b, o + j * 5 + 3, none⟩ = some (.slice A4 n4' c4) ∧ Z.cell? ⟨b, o + j * 5 + 4, none⟩ = some (.int .i64 pt.size))) := Lib.hid (by
        intro Z hZ
        have K := HX0.out.trans hZ
        exact ⟨K.keeps _ _ _ (by assumption), K.keeps _ _ _ (by assumption), K.keeps _ _ _ (by assumption), K.keeps _ _ _ (by assumption), K.keeps _ _ _ (by assumption)⟩)
      have HRP := Lib.hid hrp
      clear hpt hrp hj k0
      -- t and p, read in the first world
      obtain ⟨b'', o'', A5, n5', c5, A6, n6', c6, t', hbb2, ht', ⟨r0, r1, r2, r3, r4⟩, hrt⟩ := HL.out.at_ k (by omega)
      cases hbb2
      have et : t = t' := by have := HT0.out; rw [ht'] at this; exact (Option.some.inj this).symm
      subst et
      have er2 := (HX0.out.trans hE).keeps _ _ _ r2
      have er3 := (HX0.out.trans hE).keeps _ _ _ r3
      rw [q2] at er2
      rw [q3] at er3
      cases er2
      cases er3
      have HTL := Lib.hid hrt
      have HTK : Hid (Rd w A1 n1' t.fst) := Lib.hid (by obtain ⟨_, _, _, _, _, _, e, h, _⟩ := hrt; cases e; exact h)
      have HPK : Hid (Rd w A4 n4' pt.lst) := Lib.hid (by obtain ⟨_, _, _, _, _, _, e, _, h, _⟩ := HRP.out; cases e; exact h)
      clear hrt ht' r0 r1 r2 r3 r4
      by_cases b6 : ordT pt t < 0
      rotate_left
      · have HR : Hid (false = mayT x) := Lib.hid (may_bad HT0.out fun h => b6 (h.2.2 j pt HJ.out HP0.out).1)
        have d6 : ordT pt t ≥ 0 := by omega
        clear b6
        go_wp2_with (first | (go_at_call 27; refine (place_any _ t _ (HT.out.ext (by with_reducible (repeat (first | exact Ext.rfl_ _ | assumption | refine Ext.drew ?_ | refine Ext.drewN ?_ _ | refine Ext.alloc ?_ _ | refine Ext.trans ?_ (by assumption)))))).mono ?_; rintro e w1 ⟨rfl, hw1⟩; rw [d1]; obtain ⟨v0, v1, v2, v3, v4, _⟩ := box5 HB0.out (w' := w1) (XA.out.trans hw1); obtain ⟨u0, u1, u2, u3, u4, _⟩ := box5 HBT.out (w' := w1) hw1; have HS1 := Lib.hid (HS.out.ext ((Ext.alloc (Ext.rfl_ wr) _).trans hw1))) | (at_lookup; refine wp_setLook rfl _ _ rfl (w.heap.size + 1) (numsT x k) HS1.out rfl t.num HI.out rfl ?_; rw [d4]; refine wp_setIs rfl _ rfl _ rfl ?_) | (at_mapUpdate; refine wp_setPut rfl _ _ _ rfl (w.heap.size + 1) (numsT x k) HS1.out rfl t.num HI.out rfl rfl (by rw [numsT_length x k hk]; exact Nat.le_trans hk HSZ.out) HN4.out ?_; intro w2 s2 g2; have HS2 := Lib.hid s2; have X2 : Hid (Ext W0 w2) := Lib.hid ((XA.out.trans hw1).grown g2 (fun j e => by cases e; exact Nat.le_of_eq HS0.out)); have hb2 : w2.heap[wr.heap.size]? = some (.cells #[.int .i64 t.num, .int .i64 t.lvl, .slice A1 n1' c1, .slice A2 n2' c2, .int .i64 t.size] 42) := ((g2.block _ (Nat.lt_of_lt_of_le (by rw [World.size_alloc]; exact Nat.lt_succ_self _) hw1.size) (fun e => HNE.out (Option.some.inj e))).trans ((Ext.below hw1).block _ (by rw [World.size_alloc]; exact Nat.lt_succ_self _))).trans HBT.out; have HB2 := Lib.hid hb2; obtain ⟨z0, z1, z2, z3, z4, _⟩ := box5 hb2 (Ext.rfl_ w2); obtain ⟨v0, v1, v2, v3, v4, _⟩ := box5 HB0.out X2.out; have l2 : wr.heap.size < w2.heap.size := (Array.getElem?_eq_some_iff.1 hb2).1; have l3 : w.heap.size < w2.heap.size := (by have h1 := HS0.out; have h2 := X2.out.size; omega); clear s2 g2 hb2; obtain ⟨y0, y1, y2, y3, y4⟩ := HPL.out w2 X2.out; have HBP := Lib.hid (heap_alloc_new w2 (.cells #[.int .i64 pt.num, .int .i64 pt.lvl, .slice A3 n3' c3, .slice A4 n4' c4, .int .i64 pt.size] 42))) | (go_at_call 21; refine (order_any _ _ pt t _ (HRP.out.ext (HX0.out.trans (X2.out.trans (by with_reducible (repeat (first | exact Ext.rfl_ _ | assumption | refine Ext.drew ?_ | refine Ext.drewN ?_ _ | refine Ext.alloc ?_ _ | refine Ext.trans ?_ (by assumption))))))) (HTL.out.ext (HX0.out.trans (X2.out.trans (by with_reducible (repeat (first | exact Ext.rfl_ _ | assumption | refine Ext.drew ?_ | refine Ext.drewN ?_ _ | refine Ext.alloc ?_ _ | refine Ext.trans ?_ (by assumption)))))))).mono ?_; rintro e w3 ⟨rfl, hw3⟩; have X3 : Hid (Ext (w2.alloc (.cells #[.int .i64 pt.num, .int .i64 pt.lvl, .slice A3 n3' c3, .slice A4 n4' c4, .int .i64 pt.size] 42)) w3) := Lib.hid (by rw [hw3]; exact (by with_reducible (repeat (first | exact Ext.rfl_ _ | assumption | refine Ext.drew ?_ | refine Ext.drewN ?_ _ | refine Ext.alloc ?_ _ | refine Ext.trans ?_ (by assumption))))); clear hw3; obtain ⟨z0, z1, z2, z3, z4, _⟩ := box5 HB2.out (w' := w3) ((Ext.alloc (Ext.rfl_ w2) _).trans X3.out); obtain ⟨y0, y1, y2, y3, y4, _⟩ := box5 HBP.out (w' := w3) X3.out; have XW : Hid (Ext W0 w3) := Lib.hid (X2.out.trans ((Ext.alloc (Ext.rfl_ w2) _).trans X3.out))))
        go_ret
        exact ⟨ret_bool HR.out, HX0.out.trans (XW.out)⟩
      have d6 : ¬ ordT pt t ≥ 0 := by omega
      by_cases b7 : pt.lvl = t.lvl
      rotate_left
      · have d7 : (pt.lvl == t.lvl) = false := by simp [b7]
        have HQ : Hid (stepT pt t) := Lib.hid ⟨b6, fun h => b7 h.1⟩
        clear b6 b7
        go_wp2_with (first | (go_at_call 27; refine (place_any _ t _ (HT.out.ext (by with_reducible (repeat (first | exact Ext.rfl_ _ | assumption | refine Ext.drew ?_ | refine Ext.drewN ?_ _ | refine Ext.alloc ?_ _ | refine Ext.trans ?_ (by assumption)))))).mono ?_; rintro e w1 ⟨rfl, hw1⟩; rw [d1]; obtain ⟨v0, v1, v2, v3, v4, _⟩ := box5 HB0.out (w' := w1) (XA.out.trans hw1); obtain ⟨u0, u1, u2, u3, u4, _⟩ := box5 HBT.out (w' := w1) hw1; have HS1 := Lib.hid (HS.out.ext ((Ext.alloc (Ext.rfl_ wr) _).trans hw1))) | (at_lookup; refine wp_setLook rfl _ _ rfl (w.heap.size + 1) (numsT x k) HS1.out rfl t.num HI.out rfl ?_; rw [d4]; refine wp_setIs rfl _ rfl _ rfl ?_) | (at_mapUpdate; refine wp_setPut rfl _ _ _ rfl (w.heap.size + 1) (numsT x k) HS1.out rfl t.num HI.out rfl rfl (by rw [numsT_length x k hk]; exact Nat.le_trans hk HSZ.out) HN4.out ?_; intro w2 s2 g2; have HS2 := Lib.hid s2; have X2 : Hid (Ext W0 w2) := Lib.hid ((XA.out.trans hw1).grown g2 (fun j e => by cases e; exact Nat.le_of_eq HS0.out)); have hb2 : w2.heap[wr.heap.size]? = some (.cells #[.int .i64 t.num, .int .i64 t.lvl, .slice A1 n1' c1, .slice A2 n2' c2, .int .i64 t.size] 42) := ((g2.block _ (Nat.lt_of_lt_of_le (by rw [World.size_alloc]; exact Nat.lt_succ_self _) hw1.size) (fun e => HNE.out (Option.some.inj e))).trans ((Ext.below hw1).block _ (by rw [World.size_alloc]; exact Nat.lt_succ_self _))).trans HBT.out; have HB2 := Lib.hid hb2; obtain ⟨z0, z1, z2, z3, z4, _⟩ := box5 hb2 (Ext.rfl_ w2); obtain ⟨v0, v1, v2, v3, v4, _⟩ := box5 HB0.out X2.out; have l2 : wr.heap.size < w2.heap.size := (Array.getElem?_eq_some_iff.1 hb2).1; have l3 : w.heap.size < w2.heap.size := (by have h1 := HS0.out; have h2 := X2.out.size; omega); clear s2 g2 hb2; obtain ⟨y0, y1, y2, y3, y4⟩ := HPL.out w2 X2.out; have HBP := Lib.hid (heap_alloc_new w2 (.cells #[.int .i64 pt.num, .int .i64 pt.lvl, .slice A3 n3' c3, .slice A4 n4' c4, .int .i64 pt.size] 42))) | (go_at_call 21; refine (order_any _ _ pt t _ (HRP.out.ext (HX0.out.trans (X2.out.trans (by with_reducible (repeat (first | exact Ext.rfl_ _ | assumption | refine Ext.drew ?_ | refine Ext.drewN ?_ _ | refine Ext.alloc ?_ _ | refine Ext.trans ?_ (by assumption))))))) (HTL.out.ext (HX0.out.trans (X2.out.trans (by with_reducible (repeat (first | exact Ext.rfl_ _ | assumption | refine Ext.drew ?_ | refine Ext.drewN ?_ _ | refine Ext.alloc ?_ _ | refine Ext.trans ?_ (by assumption)))))))).mono ?_; rintro e w3 ⟨rfl, hw3⟩; have X3 : Hid (Ext (w2.alloc (.cells #[.int .i64 pt.num, .int .i64 pt.lvl, .slice A3 n3' c3, .slice A4 n4' c4, .int .i64 pt.size] 42)) w3) := Lib.hid (by rw [hw3]; exact (by with_reducible (repeat (first | exact Ext.rfl_ _ | assumption | refine Ext.drew ?_ | refine Ext.drewN ?_ _ | refine Ext.alloc ?_ _ | refine Ext.trans ?_ (by assumption))))); clear hw3; obtain ⟨z0, z1, z2, z3, z4, _⟩ := box5 HB2.out (w' := w3) ((Ext.alloc (Ext.rfl_ w2) _).trans X3.out); obtain ⟨y0, y1, y2, y3, y4, _⟩ := box5 HBP.out (w' := w3) X3.out; have XW : Hid (Ext W0 w3) := Lib.hid (X2.out.trans ((Ext.alloc (Ext.rfl_ w2) _).trans X3.out))))
        go_roundw
        case rel => exact ⟨k + 1, by simp, by omega, XW.out, Lib.hid (by rw [numsT_succ HT0.out]; exact HS2.out.ext ((Ext.alloc (Ext.rfl_ w2) _).trans X3.out)), Lib.hid (goodT_succ HG.out HT0.out HO.out HN4.out (fun i p e hp => by obtain rfl : i = j := (by have := HJ.out; omega); rw [HP0.out] at hp; cases hp; exact HQ.out))⟩
        case measure => simp [intOf]; omega
      have d7 : (pt.lvl == t.lvl) = true := by simp [b7]
      by_cases b8 : t.lvl > 0
      rotate_left
      · have HQ : Hid (stepT pt t) := Lib.hid ⟨b6, fun h => b8 h.2.1⟩
        clear b6 b7
        go_wp2_with (first | (go_at_call 27; refine (place_any _ t _ (HT.out.ext (by with_reducible (repeat (first | exact Ext.rfl_ _ | assumption | refine Ext.drew ?_ | refine Ext.drewN ?_ _ | refine Ext.alloc ?_ _ | refine Ext.trans ?_ (by assumption)))))).mono ?_; rintro e w1 ⟨rfl, hw1⟩; rw [d1]; obtain ⟨v0, v1, v2, v3, v4, _⟩ := box5 HB0.out (w' := w1) (XA.out.trans hw1); obtain ⟨u0, u1, u2, u3, u4, _⟩ := box5 HBT.out (w' := w1) hw1; have HS1 := Lib.hid (HS.out.ext ((Ext.alloc (Ext.rfl_ wr) _).trans hw1))) | (at_lookup; refine wp_setLook rfl _ _ rfl (w.heap.size + 1) (numsT x k) HS1.out rfl t.num HI.out rfl ?_; rw [d4]; refine wp_setIs rfl _ rfl _ rfl ?_) | (at_mapUpdate; refine wp_setPut rfl _ _ _ rfl (w.heap.size + 1) (numsT x k) HS1.out rfl t.num HI.out rfl rfl (by rw [numsT_length x k hk]; exact Nat.le_trans hk HSZ.out) HN4.out ?_; intro w2 s2 g2; have HS2 := Lib.hid s2; have X2 : Hid (Ext W0 w2) := Lib.hid ((XA.out.trans hw1).grown g2 (fun j e => by cases e; exact Nat.le_of_eq HS0.out)); have hb2 : w2.heap[wr.heap.size]? = some (.cells #[.int .i64 t.num, .int .i64 t.lvl, .slice A1 n1' c1, .slice A2 n2' c2, .int .i64 t.size] 42) := ((g2.block _ (Nat.lt_of_lt_of_le (by rw [World.size_alloc]; exact Nat.lt_succ_self _) hw1.size) (fun e => HNE.out (Option.some.inj e))).trans ((Ext.below hw1).block _ (by rw [World.size_alloc]; exact Nat.lt_succ_self _))).trans HBT.out; have HB2 := Lib.hid hb2; obtain ⟨z0, z1, z2, z3, z4, _⟩ := box5 hb2 (Ext.rfl_ w2); obtain ⟨v0, v1, v2, v3, v4, _⟩ := box5 HB0.out X2.out; have l2 : wr.heap.size < w2.heap.size := (Array.getElem?_eq_some_iff.1 hb2).1; have l3 : w.heap.size < w2.heap.size := (by have h1 := HS0.out; have h2 := X2.out.size; omega); clear s2 g2 hb2; obtain ⟨y0, y1, y2, y3, y4⟩ := HPL.out w2 X2.out; have HBP := Lib.hid (heap_alloc_new w2 (.cells #[.int .i64 pt.num, .int .i64 pt.lvl, .slice A3 n3' c3, .slice A4 n4' c4, .int .i64 pt.size] 42))) | (go_at_call 21; refine (order_any _ _ pt t _ (HRP.out.ext (HX0.out.trans (X2.out.trans (by with_reducible (repeat (first | exact Ext.rfl_ _ | assumption | refine Ext.drew ?_ | refine Ext.drewN ?_ _ | refine Ext.alloc ?_ _ | refine Ext.trans ?_ (by assumption))))))) (HTL.out.ext (HX0.out.trans (X2.out.trans (by with_reducible (repeat (first | exact Ext.rfl_ _ | assumption | refine Ext.drew ?_ | refine Ext.drewN ?_ _ | refine Ext.alloc ?_ _ | refine Ext.trans ?_ (by assumption)))))))).mono ?_; rintro e w3 ⟨rfl, hw3⟩; have X3 : Hid (Ext (w2.alloc (.cells #[.int .i64 pt.num, .int .i64 pt.lvl, .slice A3 n3' c3, .slice A4 n4' c4, .int .i64 pt.size] 42)) w3) := Lib.hid (by rw [hw3]; exact (by with_reducible (repeat (first | exact Ext.rfl_ _ | assumption | refine Ext.drew ?_ | refine Ext.drewN ?_ _ | refine Ext.alloc ?_ _ | refine Ext.trans ?_ (by assumption))))); clear hw3; obtain ⟨z0, z1, z2, z3, z4, _⟩ := box5 HB2.out (w' := w3) ((Ext.alloc (Ext.rfl_ w2) _).trans X3.out); obtain ⟨y0, y1, y2, y3, y4, _⟩ := box5 HBP.out (w' := w3) X3.out; have XW : Hid (Ext W0 w3) := Lib.hid (X2.out.trans ((Ext.alloc (Ext.rfl_ w2) _).trans X3.out))))
        go_roundw
        case rel => exact ⟨k + 1, by simp, by omega, XW.out, Lib.hid (by rw [numsT_succ HT0.out]; exact HS2.out.ext ((Ext.alloc (Ext.rfl_ w2) _).trans X3.out)), Lib.hid (goodT_succ HG.out HT0.out HO.out HN4.out (fun i p e hp => by obtain rfl : i = j := (by have := HJ.out; omega); rw [HP0.out] at hp; cases hp; exact HQ.out))⟩
        case measure => simp [intOf]; omega
      by_cases b9 : cmpK pt.lst t.fst ≥ 0
      · have HR : Hid (false = mayT x) := Lib.hid (may_bad HT0.out fun h => (h.2.2 j pt HJ.out HP0.out).2 ⟨b7, b8, b9⟩)
        clear b6 b7
        go_wp2_with (first | (go_at_call 27; refine (place_any _ t _ (HT.out.ext (by with_reducible (repeat (first | exact Ext.rfl_ _ | assumption | refine Ext.drew ?_ | refine Ext.drewN ?_ _ | refine Ext.alloc ?_ _ | refine Ext.trans ?_ (by assumption)))))).mono ?_; rintro e w1 ⟨rfl, hw1⟩; rw [d1]; obtain ⟨v0, v1, v2, v3, v4, _⟩ := box5 HB0.out (w' := w1) (XA.out.trans hw1); obtain ⟨u0, u1, u2, u3, u4, _⟩ := box5 HBT.out (w' := w1) hw1; have HS1 := Lib.hid (HS.out.ext ((Ext.alloc (Ext.rfl_ wr) _).trans hw1))) | (at_lookup; refine wp_setLook rfl _ _ rfl (w.heap.size + 1) (numsT x k) HS1.out rfl t.num HI.out rfl ?_; rw [d4]; refine wp_setIs rfl _ rfl _ rfl ?_) | (at_mapUpdate; refine wp_setPut rfl _ _ _ rfl (w.heap.size + 1) (numsT x k) HS1.out rfl t.num HI.out rfl rfl (by rw [numsT_length x k hk]; exact Nat.le_trans hk HSZ.out) HN4.out ?_; intro w2 s2 g2; have HS2 := Lib.hid s2; have X2 : Hid (Ext W0 w2) := Lib.hid ((XA.out.trans hw1).grown g2 (fun j e => by cases e; exact Nat.le_of_eq HS0.out)); have hb2 : w2.heap[wr.heap.size]? = some (.cells #[.int .i64 t.num, .int .i64 t.lvl, .slice A1 n1' c1, .slice A2 n2' c2, .int .i64 t.size] 42) := ((g2.block _ (Nat.lt_of_lt_of_le (by rw [World.size_alloc]; exact Nat.lt_succ_self _) hw1.size) (fun e => HNE.out (Option.some.inj e))).trans ((Ext.below hw1).block _ (by rw [World.size_alloc]; exact Nat.lt_succ_self _))).trans HBT.out; have HB2 := Lib.hid hb2; obtain ⟨z0, z1, z2, z3, z4, _⟩ := box5 hb2 (Ext.rfl_ w2); obtain ⟨v0, v1, v2, v3, v4, _⟩ := box5 HB0.out X2.out; have l2 : wr.heap.size < w2.heap.size := (Array.getElem?_eq_some_iff.1 hb2).1; have l3 : w.heap.size < w2.heap.size := (by have h1 := HS0.out; have h2 := X2.out.size; omega); clear s2 g2 hb2; obtain ⟨y0, y1, y2, y3, y4⟩ := HPL.out w2 X2.out; have HBP := Lib.hid (heap_alloc_new w2 (.cells #[.int .i64 pt.num, .int .i64 pt.lvl, .slice A3 n3' c3, .slice A4 n4' c4, .int .i64 pt.size] 42))) | (go_at_call 21; refine (order_any _ _ pt t _ (HRP.out.ext (HX0.out.trans (X2.out.trans (by with_reducible (repeat (first | exact Ext.rfl_ _ | assumption | refine Ext.drew ?_ | refine Ext.drewN ?_ _ | refine Ext.alloc ?_ _ | refine Ext.trans ?_ (by assumption))))))) (HTL.out.ext (HX0.out.trans (X2.out.trans (by with_reducible (repeat (first | exact Ext.rfl_ _ | assumption | refine Ext.drew ?_ | refine Ext.drewN ?_ _ | refine Ext.alloc ?_ _ | refine Ext.trans ?_ (by assumption)))))))).mono ?_; rintro e w3 ⟨rfl, hw3⟩; have X3 : Hid (Ext (w2.alloc (.cells #[.int .i64 pt.num, .int .i64 pt.lvl, .slice A3 n3' c3, .slice A4 n4' c4, .int .i64 pt.size] 42)) w3) := Lib.hid (by rw [hw3]; exact (by with_reducible (repeat (first | exact Ext.rfl_ _ | assumption | refine Ext.drew ?_ | refine Ext.drewN ?_ _ | refine Ext.alloc ?_ _ | refine Ext.trans ?_ (by assumption))))); clear hw3; obtain ⟨z0, z1, z2, z3, z4, _⟩ := box5 HB2.out (w' := w3) ((Ext.alloc (Ext.rfl_ w2) _).trans X3.out); obtain ⟨y0, y1, y2, y3, y4, _⟩ := box5 HBP.out (w' := w3) X3.out; have XW : Hid (Ext W0 w3) := Lib.hid (X2.out.trans ((Ext.alloc (Ext.rfl_ w2) _).trans X3.out))) | (go_at_call 42; refine (bcompare_any _ _ _ _ _ _ pt.lst t.fst _ ?_ ?_).mono ?_; (exact (HPK.out.ext (HX0.out.trans XW.out))); (exact (HTK.out.ext (HX0.out.trans XW.out))); rintro e w4 ⟨rfl, rfl⟩))
        go_ret
        exact ⟨ret_bool HR.out, HX0.out.trans (XW.out)⟩
      have HQ : Hid (stepT pt t) := Lib.hid ⟨b6, fun h => b9 h.2.2⟩
      clear b6 b7
      go_wp2_with (first | (go_at_call 27; refine (place_any _ t _ (HT.out.ext (by with_reducible (repeat (first | exact Ext.rfl_ _ | assumption | refine Ext.drew ?_ | refine Ext.drewN ?_ _ | refine Ext.alloc ?_ _ | refine Ext.trans ?_ (by assumption)))))).mono ?_; rintro e w1 ⟨rfl, hw1⟩; rw [d1]; obtain ⟨v0, v1, v2, v3, v4, _⟩ := box5 HB0.out (w' := w1) (XA.out.trans hw1); obtain ⟨u0, u1, u2, u3, u4, _⟩ := box5 HBT.out (w' := w1) hw1; have HS1 := Lib.hid (HS.out.ext ((Ext.alloc (Ext.rfl_ wr) _).trans hw1))) | (at_lookup; refine wp_setLook rfl _ _ rfl (w.heap.size + 1) (numsT x k) HS1.out rfl t.num HI.out rfl ?_; rw [d4]; refine wp_setIs rfl _ rfl _ rfl ?_) | (at_mapUpdate; refine wp_setPut rfl _ _ _ rfl (w.heap.size + 1) (numsT x k) HS1.out rfl t.num HI.out rfl rfl (by rw [numsT_length x k hk]; exact Nat.le_trans hk HSZ.out) HN4.out ?_; intro w2 s2 g2; have HS2 := Lib.hid s2; have X2 : Hid (Ext W0 w2) := Lib.hid ((XA.out.trans hw1).grown g2 (fun j e => by cases e; exact Nat.le_of_eq HS0.out)); have hb2 : w2.heap[wr.heap.size]? = some (.cells #[.int .i64 t.num, .int .i64 t.lvl, .slice A1 n1' c1, .slice A2 n2' c2, .int .i64 t.size] 42) := ((g2.block _ (Nat.lt_of_lt_of_le (by rw [World.size_alloc]; exact Nat.lt_succ_self _) hw1.size) (fun e => HNE.out (Option.some.inj e))).trans ((Ext.below hw1).block _ (by rw [World.size_alloc]; exact Nat.lt_succ_self _))).trans HBT.out; have HB2 := Lib.hid hb2; obtain ⟨z0, z1, z2, z3, z4, _⟩ := box5 hb2 (Ext.rfl_ w2); obtain ⟨v0, v1, v2, v3, v4, _⟩ := box5 HB0.out X2.out; have l2 : wr.heap.size < w2.heap.size := (Array.getElem?_eq_some_iff.1 hb2).1; have l3 : w.heap.size < w2.heap.size := (by have h1 := HS0.out; have h2 := X2.out.size; omega); clear s2 g2 hb2; obtain ⟨y0, y1, y2, y3, y4⟩ := HPL.out w2 X2.out; have HBP := Lib.hid (heap_alloc_new w2 (.cells #[.int .i64 pt.num, .int .i64 pt.lvl, .slice A3 n3' c3, .slice A4 n4' c4, .int .i64 pt.size] 42))) | (go_at_call 21; refine (order_any _ _ pt t _ (HRP.out.ext (HX0.out.trans (X2.out.trans (by with_reducible (repeat (first | exact Ext.rfl_ _ | assumption | refine Ext.drew ?_ | refine Ext.drewN ?_ _ | refine Ext.alloc ?_ _ | refine Ext.trans ?_ (by assumption))))))) (HTL.out.ext (HX0.out.trans (X2.out.trans (by with_reducible (repeat (first | exact Ext.rfl_ _ | assumption | refine Ext.drew ?_ | refine Ext.drewN ?_ _ | refine Ext.alloc ?_ _ | refine Ext.trans ?_ (by assumption)))))))).mono ?_; rintro e w3 ⟨rfl, hw3⟩; have X3 : Hid (Ext (w2.alloc (.cells #[.int .i64 pt.num, .int .i64 pt.lvl, .slice A3 n3' c3, .slice A4 n4' c4, .int .i64 pt.size] 42)) w3) := Lib.hid (by rw [hw3]; exact (by with_reducible (repeat (first | exact Ext.rfl_ _ | assumption | refine Ext.drew ?_ | refine Ext.drewN ?_ _ | refine Ext.alloc ?_ _ | refine Ext.trans ?_ (by assumption))))); clear hw3; obtain ⟨z0, z1, z2, z3, z4, _⟩ := box5 HB2.out (w' := w3) ((Ext.alloc (Ext.rfl_ w2) _).trans X3.out); obtain ⟨y0, y1, y2, y3, y4, _⟩ := box5 HBP.out (w' := w3) X3.out; have XW : Hid (Ext W0 w3) := Lib.hid (X2.out.trans ((Ext.alloc (Ext.rfl_ w2) _).trans X3.out))) | (go_at_call 42; refine (bcompare_any _ _ _ _ _ _ pt.lst t.fst _ ?_ ?_).mono ?_; (exact (HPK.out.ext (HX0.out.trans XW.out))); (exact (HTK.out.ext (HX0.out.trans XW.out))); rintro e w4 ⟨rfl, rfl⟩))
      go_roundw
      case rel => exact ⟨k + 1, by simp, by omega, XW.out, Lib.hid (by rw [numsT_succ HT0.out]; exact HS2.out.ext ((Ext.alloc (Ext.rfl_ w2) _).trans X3.out)), Lib.hid (goodT_succ HG.out HT0.out HO.out HN4.out (fun i p e hp => by obtain rfl : i = j := (by have := HJ.out; omega); rw [HP0.out] at hp; cases hp; exact HQ.out))⟩
      case measure => simp [intOf]; omega

end Go.Proofs.YteooaplimiifiaaGreat
