/- Batches in memory; wal.May, the reference's May, wal.Put, the reference's Payload. Conditions: the batch reads. -/
/- Contracts of wal.Put and of the reference's Payload. Conditions: the batch reads. -/
import Derived.Test.YthdahmicjlplcaaBatM
import Derived.Test.YthdahmicjlplcaaFrmE
import Derived.Test.YthdahmicjlplcaaListW
import Derived.Test.YthdahmicjlplcaaRefRM
namespace Go.Proofs.Ythdahmicjlplcaa
set_option linter.unusedSimpArgs false
set_option linter.unusedVariables false
open Go.RowKit

/-- A batch's value. -/
def RdB (w : World) (v : Value) (x : Bat) : Prop := ∃ A n c, v = .agg #[.int .i64 x.idx, .slice A n c] ∧ RdL w A n x.es ∧ n ≤ c
theorem RdB.ext {w w' : World} {v : Value} {x : Bat} (h : RdB w v x) (he : Ext w w') : RdB w' v x := by
  obtain ⟨A, n, c, e, hl, hc⟩ := h
  exact ⟨A, n, c, e, hl.ext he, hc⟩
/-- A slice of batches (address, length) that reads as xs. -/
def RdLB (w : World) (A : Option Addr) (n : Nat) (xs : List Bat) : Prop :=
  xs.length = n ∧ n ≤ B41 ∧ (0 < n → ∃ b o, A = some ⟨b, o, none⟩ ∧ ∀ k (h : k < xs.length), ∃ A1 n1 c1, w.cell? ⟨b, o + k * 2, none⟩ = some (.int .i64 xs[k].idx) ∧ w.cell? ⟨b, o + k * 2 + 1, none⟩ = some (.slice A1 n1 c1) ∧ RdL w A1 n1 xs[k].es ∧ n1 ≤ c1)
theorem RdLB.nil (w : World) (A : Option Addr) : RdLB w A 0 [] := ⟨rfl, Nat.zero_le _, fun h => absurd h (by omega)⟩
theorem RdLB.ext {w w' : World} {A : Option Addr} {n : Nat} {xs : List Bat} (h : RdLB w A n xs) (he : Ext w w') : RdLB w' A n xs :=
  ⟨h.1, h.2.1, fun hn => by
    obtain ⟨b, o, e, hc⟩ := h.2.2 hn
    refine ⟨b, o, e, fun k hk => ?_⟩
    obtain ⟨A1, n1, c1, h0, h1, h2, h3⟩ := hc k hk
    exact ⟨A1, n1, c1, he.keeps _ _ _ h0, he.keeps _ _ _ h1, h2.ext he, h3⟩⟩
theorem RdLB.at_ {w : World} {A : Option Addr} {n : Nat} {xs : List Bat} (h : RdLB w A n xs) (k : Nat) (hk : k < n) :
    ∃ b o A1 n1 c1 x, A = some ⟨b, o, none⟩ ∧ xs[k]? = some x ∧ w.cell? ⟨b, o + k * 2, none⟩ = some (.int .i64 x.idx) ∧ w.cell? ⟨b, o + k * 2 + 1, none⟩ = some (.slice A1 n1 c1) ∧ RdL w A1 n1 x.es ∧ n1 ≤ c1 := by
  obtain ⟨b, o, e, hc⟩ := h.2.2 (by omega)
  have hk' : k < xs.length := by rw [h.1]; exact hk
  obtain ⟨A1, n1, c1, h0, h1, h2, h3⟩ := hc k hk'
  exact ⟨b, o, A1, n1, c1, xs[k], e, List.getElem?_eq_getElem hk', h0, h1, h2, h3⟩
theorem RdLB.take {w : World} {A : Option Addr} {n : Nat} {xs : List Bat} (h : RdLB w A n xs) (k : Nat) (hk : k ≤ n) : RdLB w A k (xs.take k) :=
  ⟨by rw [List.length_take, h.1]; omega, Nat.le_trans hk h.2.1, fun hn => by
    obtain ⟨b, o, e, hc⟩ := h.2.2 (by omega)
    refine ⟨b, o, e, fun j hj => ?_⟩
    have hj' : j < xs.length := by rw [List.length_take] at hj; omega
    have := hc j hj'
    simpa [List.getElem_take] using this⟩
theorem box2 {W w' : World} {g : Nat} {t : TypeId} {a b : Value} (h : W.heap[g]? = some (.cells #[a, b] t (0, 0))) (hx : Ext W w') :
    w'.cell? ⟨g, 0, none⟩ = some a ∧ w'.cell? ⟨g, 1, none⟩ = some b ∧ w'.frozen? ⟨g, 0, none⟩ = false ∧ w'.frozen? ⟨g, 1, none⟩ = false := by
  have hg := (Array.getElem?_eq_some_iff.1 h).1
  have h' := (Ext.below hx).block g hg
  rw [h] at h'
  refine ⟨?_, ?_, ?_, ?_⟩ <;> simp [World.cell?, World.frozen?, h']

set_option maxRecDepth 100000 in
theorem walbad_any (v : Value) (x : Ent) (w : World) (hx : RdE w v x) :
    Calls Try.prog 31 #[v] w fun e w' => e = .returned (.bool (!mayE x)) ∧ Ext w w' := by
  have HX := Lib.hid hx
  obtain ⟨A, n, c, A', n', c', rfl, _⟩ := hx
  go_enter Try.func31, Try.ntmps31
  go_wp2_with fail
  refine (may_any _ x _ (HX.out.ext (by with_reducible (repeat (first | exact Ext.rfl_ _ | assumption | refine Ext.drew ?_ | refine Ext.drewN ?_ _ | refine Ext.alloc ?_ _ | refine Ext.trans ?_ (by assumption)))))).mono ?_
  rintro e w1 ⟨rfl, hw1⟩
  go_wp2
  go_ret
  exact ⟨rfl, (by with_reducible (repeat (first | exact Ext.rfl_ _ | assumption | refine Ext.drew ?_ | refine Ext.drewN ?_ _ | refine Ext.alloc ?_ _ | refine Ext.trans ?_ (by assumption))))⟩

set_option maxRecDepth 100000 in
set_option maxHeartbeats 1000000 in
theorem idxwal_any (A : Option Addr) (n c : Nat) (xs : List Ent) (w : World) (hl : RdL w A n xs) :
    Calls Try.prog 59 #[.slice A n c, .func (.func 31) #[] #[]] w fun e w' => (∃ z : Int, e = .returned (.int .i64 z) ∧ (0 ≤ z ↔ ∃ x ∈ xs, mayE x = false)) ∧ Ext w w' := by
  have HL := Lib.hid hl
  have hn := hl.2.1
  unfold B41 at hn
  clear hl
  go_enter Try.func59, Try.ntmps59
  go_wp2
  go_loopw [8] (fun i wr => ∃ k : Nat, i = .int .i64 k ∧ k ≤ n ∧ Hid (∀ x ∈ xs.take k, mayE x = true) ∧ Ext w wr) (fun i _ => n - (intOf i).toNat)
  case atStart => exact ⟨0, rfl, Nat.zero_le _, Lib.hid (by simp), Ext.rfl_ _⟩
  case round =>
    obtain ⟨k, rfl, hk, h1, hE⟩ := hrel
    by_cases c1 : (k : Int) < (n : Int)
    · obtain ⟨b, o, A1, n1, c1', A2, n2, c2', x, rfl, hx, ⟨q0, q1, q2, q3⟩, hr⟩ := HL.out.at_ k (by omega)
      have hke : k < xs.length := by rw [HL.out.1]; omega
      have hxe : xs[k] = x := by rw [List.getElem?_eq_getElem hke] at hx; exact Option.some.inj hx
      have g0 := hE.keeps _ _ _ q0
      have g1 := hE.keeps _ _ _ q1
      have g2 := hE.keeps _ _ _ q2
      have g3 := hE.keeps _ _ _ q3
      have HR := Lib.hid (hr.ext hE)
      have HXE := Lib.hid hxe
      clear q0 q1 q2 q3 hr hx hxe
      by_cases hm : mayE x = true
      · have HM := Lib.hid hm
        clear hm
        go_wp2_with fail
        refine (walbad_any _ x _ HR.out).mono ?_
        rintro e w1 ⟨rfl, hw1⟩
        rw [HM.out]
        go_wp2
        go_roundw
        case rel =>
          refine ⟨k + 1, by go_num, by omega, Lib.hid ?_, (by with_reducible (repeat (first | exact Ext.rfl_ _ | assumption | refine Ext.drew ?_ | refine Ext.drewN ?_ _ | refine Ext.alloc ?_ _ | refine Ext.trans ?_ (by assumption))))⟩
          intro y hy
          rw [List.take_succ_eq_append_getElem hke, List.mem_append] at hy
          rcases hy with hy | hy
          · exact h1.out y hy
          · simp at hy; rw [hy, HXE.out]; exact HM.out
        case measure => simp [intOf]; omega
      · have hm' : mayE x = false := by simpa using hm
        have HM := Lib.hid hm'
        clear hm hm'
        go_wp2_with fail
        refine (walbad_any _ x _ HR.out).mono ?_
        rintro e w1 ⟨rfl, hw1⟩
        rw [HM.out]
        go_wp2
        go_ret
        exact ⟨⟨_, rfl, fun _ => ⟨x, HXE.out ▸ List.getElem_mem hke, HM.out⟩, fun _ => by omega⟩, (by with_reducible (repeat (first | exact Ext.rfl_ _ | assumption | refine Ext.drew ?_ | refine Ext.drewN ?_ _ | refine Ext.alloc ?_ _ | refine Ext.trans ?_ (by assumption))))⟩
    · go_wp2
      go_ret
      refine ⟨⟨_, rfl, fun h => absurd h (by omega), fun ⟨x, hx, hm⟩ => ?_⟩, hE⟩
      have e0 : xs.take k = xs := List.take_of_length_le (by rw [HL.out.1]; omega)
      have := h1.out x (by rw [e0]; exact hx)
      rw [hm] at this; cases this

set_option maxRecDepth 100000 in
theorem contwal_any (A : Option Addr) (n c : Nat) (xs : List Ent) (w : World) (hl : RdL w A n xs) :
    Calls Try.prog 33 #[.slice A n c, .func (.func 31) #[] #[]] w fun e w' => e = .returned (.bool (!allMay xs)) ∧ Ext w w' := by
  have HL := Lib.hid hl
  clear hl
  go_enter Try.func33, Try.ntmps33
  go_wp2_with fail
  refine (idxwal_any A n c xs _ HL.out).mono ?_
  rintro e w1 ⟨⟨z, rfl, hz⟩, hw1⟩
  have hb : decide (0 ≤ z) = !allMay xs := by
    by_cases h : 0 ≤ z
    · obtain ⟨x, hx, hm⟩ := hz.1 h
      have : allMay xs = false := by
        unfold allMay
        cases hq : xs.all mayE with
        | false => rfl
        | true => have := List.all_eq_true.1 hq x hx; rw [hm] at this; cases this
      simp [h, this]
    · have : allMay xs = true := by
        unfold allMay
        rw [List.all_eq_true]
        intro x hx
        cases hm : mayE x with
        | true => rfl
        | false => exact absurd (hz.2 ⟨x, hx, hm⟩) h
      simp [h, this]
  have HB := Lib.hid hb
  clear hz hb
  go_wp2
  go_ret
  exact ⟨ret_bool (by first | exact HB.out | (rw [← HB.out])), (by with_reducible (repeat (first | exact Ext.rfl_ _ | assumption | refine Ext.drew ?_ | refine Ext.drewN ?_ _ | refine Ext.alloc ?_ _ | refine Ext.trans ?_ (by assumption))))⟩

set_option maxRecDepth 100000 in
set_option maxHeartbeats 2000000 in
theorem wmay_any (v : Value) (x : Bat) (w : World) (hx : RdB w v x) :
    Calls Try.prog 13 #[v] w fun e w' => e = .returned (.bool (mayW x)) ∧ Ext w w' := by
  obtain ⟨A, n, c, rfl, hl, hc⟩ := hx
  have hb := heap_alloc_new w (.cells #[.int .i64 x.idx, .slice A n c] 24)
  obtain ⟨q0, q1, _, _⟩ := box2 hb (Ext.rfl_ _)
  have HL := Lib.hid hl
  have hlen := hl.1
  have HQ := Lib.hid hb
  clear hl hb
  by_cases h1 : 1 ≤ x.idx
  · by_cases h2 : x.idx ≤ 2147483647
    · by_cases h3 : (n : Int) ≤ 65536
      · have hm : Hid (mayW x = allMay x.es) := Lib.hid (by unfold mayW; rw [decide_eq_true h1, decide_eq_true h2, decide_eq_true (by omega : x.es.length ≤ 65536)]; simp)
        go_enter Try.func13, Try.ntmps13
        go_wp2_with fail
        refine (contwal_any A n c x.es _ (HL.out.ext (by with_reducible (repeat (first | exact Ext.rfl_ _ | assumption | refine Ext.drew ?_ | refine Ext.drewN ?_ _ | refine Ext.alloc ?_ _ | refine Ext.trans ?_ (by assumption)))))).mono ?_
        rintro e w1 ⟨rfl, hw1⟩
        go_wp2
        go_ret
        exact ⟨ret_bool (by rw [hm.out]; try simp), (by with_reducible (repeat (first | exact Ext.rfl_ _ | assumption | refine Ext.drew ?_ | refine Ext.drewN ?_ _ | refine Ext.alloc ?_ _ | refine Ext.trans ?_ (by assumption))))⟩
      · have hm : Hid (mayW x = false) := Lib.hid (by unfold mayW; rw [decide_eq_false (by omega : ¬ x.es.length ≤ 65536)]; simp)
        go_enter Try.func13, Try.ntmps13
        go_wp2
        go_ret
        exact ⟨ret_bool hm.out.symm, (by with_reducible (repeat (first | exact Ext.rfl_ _ | assumption | refine Ext.drew ?_ | refine Ext.drewN ?_ _ | refine Ext.alloc ?_ _ | refine Ext.trans ?_ (by assumption))))⟩
    · have hm : Hid (mayW x = false) := Lib.hid (by unfold mayW; rw [decide_eq_false h2]; simp)
      go_enter Try.func13, Try.ntmps13
      go_wp2
      go_ret
      exact ⟨ret_bool hm.out.symm, (by with_reducible (repeat (first | exact Ext.rfl_ _ | assumption | refine Ext.drew ?_ | refine Ext.drewN ?_ _ | refine Ext.alloc ?_ _ | refine Ext.trans ?_ (by assumption))))⟩
  · have hm : Hid (mayW x = false) := Lib.hid (by unfold mayW; rw [decide_eq_false h1]; simp)
    go_enter Try.func13, Try.ntmps13
    go_wp2
    go_ret
    exact ⟨ret_bool hm.out.symm, (by with_reducible (repeat (first | exact Ext.rfl_ _ | assumption | refine Ext.drew ?_ | refine Ext.drewN ?_ _ | refine Ext.alloc ?_ _ | refine Ext.trans ?_ (by assumption))))⟩

set_option maxRecDepth 100000 in
set_option maxHeartbeats 2000000 in
theorem rmay13_any (v : Value) (x : Bat) (w : World) (hx : RdB w v x) :
    Calls Try.prog 14 #[v] w fun e w' => e = .returned (.bool (mayW x)) ∧ Ext w w' := by
  obtain ⟨A, n, c, rfl, hl, hc⟩ := hx
  have hb := heap_alloc_new w (.cells #[.int .i64 x.idx, .slice A n c] 24)
  obtain ⟨q0, q1, _, _⟩ := box2 hb (Ext.rfl_ _)
  have HL := Lib.hid hl
  have hlen := hl.1
  have HQ := Lib.hid hb
  clear hl hb
  by_cases h1 : x.idx < 1
  · have hm : Hid (mayW x = false) := Lib.hid (by unfold mayW; rw [decide_eq_false (by omega : ¬ 1 ≤ x.idx)]; simp)
    go_enter Try.func14, Try.ntmps14
    go_wp2
    go_ret
    exact ⟨ret_bool hm.out.symm, (by with_reducible (repeat (first | exact Ext.rfl_ _ | assumption | refine Ext.drew ?_ | refine Ext.drewN ?_ _ | refine Ext.alloc ?_ _ | refine Ext.trans ?_ (by assumption))))⟩
  · by_cases h2 : 2147483647 < x.idx
    · have hm : Hid (mayW x = false) := Lib.hid (by unfold mayW; rw [decide_eq_false (by omega : ¬ x.idx ≤ 2147483647)]; simp)
      go_enter Try.func14, Try.ntmps14
      go_wp2
      go_ret
      exact ⟨ret_bool hm.out.symm, (by with_reducible (repeat (first | exact Ext.rfl_ _ | assumption | refine Ext.drew ?_ | refine Ext.drewN ?_ _ | refine Ext.alloc ?_ _ | refine Ext.trans ?_ (by assumption))))⟩
    · by_cases h3 : (65536 : Int) < (n : Int)
      · have hm : Hid (mayW x = false) := Lib.hid (by unfold mayW; rw [decide_eq_false (by omega : ¬ x.es.length ≤ 65536)]; simp)
        go_enter Try.func14, Try.ntmps14
        go_wp2
        go_ret
        exact ⟨ret_bool hm.out.symm, (by with_reducible (repeat (first | exact Ext.rfl_ _ | assumption | refine Ext.drew ?_ | refine Ext.drewN ?_ _ | refine Ext.alloc ?_ _ | refine Ext.trans ?_ (by assumption))))⟩
      · have hm : Hid (mayW x = allMay x.es) := Lib.hid (by unfold mayW; rw [decide_eq_true (by omega : 1 ≤ x.idx), decide_eq_true (by omega : x.idx ≤ 2147483647), decide_eq_true (by omega : x.es.length ≤ 65536)]; simp)
        have HW := Lib.hid (show Ext w (w.alloc (.cells #[.int .i64 x.idx, .slice A n c] 24)) from (by with_reducible (repeat (first | exact Ext.rfl_ _ | assumption | refine Ext.drew ?_ | refine Ext.drewN ?_ _ | refine Ext.alloc ?_ _ | refine Ext.trans ?_ (by assumption)))))
        go_enter Try.func14, Try.ntmps14
        go_wp2
        go_loopw [3] (fun i wr => ∃ k : Nat, i = .int .i64 k ∧ k ≤ n ∧ Hid (∀ y ∈ x.es.take k, mayE y = true) ∧ Hid (Ext (w.alloc (.cells #[.int .i64 x.idx, .slice A n c] 24)) wr)) (fun i _ => n - (intOf i).toNat)
        case atStart => exact ⟨0, rfl, Nat.zero_le _, Lib.hid (by simp), Lib.hid (Ext.rfl_ _)⟩
        case round =>
          obtain ⟨k, rfl, hk, hq, hE⟩ := hrel
          obtain ⟨r0, r1, _, _⟩ := box2 HQ.out hE.out
          by_cases hlt : k < n
          · have hlt' : (k : Int) < (n : Int) := by omega
            obtain ⟨b, o, A1, n1, c1', A2, n2, c2', y, rfl, hy, ⟨g0, g1, g2, g3⟩, hr⟩ := (HL.out.ext (HW.out.trans hE.out)).at_ k hlt
            have hke : k < x.es.length := by omega
            have hye : x.es[k] = y := by rw [List.getElem?_eq_getElem hke] at hy; exact Option.some.inj hy
            have HR := Lib.hid hr
            have HY := Lib.hid hye
            clear hr hy hye
            by_cases hmy : mayE y = true
            · have HM := Lib.hid hmy
              clear hmy
              go_wp2_with fail
              refine (rmay_any _ y _ HR.out).mono ?_
              rintro e w1 ⟨rfl, hw1⟩
              rw [HM.out]
              go_wp2
              go_roundw
              case rel =>
                refine ⟨k + 1, by go_num, by omega, Lib.hid ?_, Lib.hid (hE.out.trans hw1)⟩
                intro z hz
                rw [List.take_succ_eq_append_getElem hke, List.mem_append] at hz
                rcases hz with hz | hz
                · exact hq.out z hz
                · simp at hz; rw [hz, HY.out]; exact HM.out
              case measure => simp [intOf]; omega
            · have hmf : mayE y = false := by simpa using hmy
              have HM := Lib.hid hmf
              clear hmy hmf
              go_wp2_with fail
              refine (rmay_any _ y _ HR.out).mono ?_
              rintro e w1 ⟨rfl, hw1⟩
              rw [HM.out]
              go_wp2
              go_ret
              refine ⟨ret_bool ?_, HW.out.trans (hE.out.trans hw1)⟩
              rw [hm.out]
              have : ¬ allMay x.es = true := fun h => by
                unfold allMay at h
                rw [List.all_eq_true] at h
                have := h y (HY.out ▸ List.getElem_mem hke)
                rw [HM.out] at this
                cases this
              simpa using this
          · obtain rfl : k = n := by omega
            go_wp2
            go_ret
            refine ⟨ret_bool ?_, HW.out.trans hE.out⟩
            rw [hm.out]
            have : allMay x.es = true := by
              unfold allMay
              rw [List.all_eq_true]
              intro y hy
              exact hq.out y (by rw [List.take_of_length_le (by omega)]; exact hy)
            exact this.symm


open Go.RowKit

theorem lisB_len (xs : List Ent) : (lisB xs).length ≤ 65640 * xs.length + 10 := by
  unfold lisB
  rw [List.length_append]
  have := flat_len xs
  have := numB_length xs.length
  omega
theorem wrL_may {x : Bat} (h : mayW x = true) : wrL x.es = lisB x.es ∧ wrLN x.es = 0 := by
  obtain ⟨_, _, h3, h4⟩ := mayW_iff.1 h
  unfold wrL wrLN
  rw [if_pos ⟨h3, h4⟩, if_pos ⟨h3, h4⟩]
  exact ⟨rfl, rfl⟩

set_option maxRecDepth 100000 in
set_option maxHeartbeats 4000000 in
theorem wput_any (v : Value) (x : Bat) (w : World) (hx : RdB w v x) :
    Calls Try.prog 12 #[v] w fun e w' => ∃ v', e = .returned (.tuple #[v', .int .i64 (wrWN x)]) ∧ OwnB w' w.heap.size v' (wrW x) ∧ Ext w w' := by
  have HX := Lib.hid hx
  obtain ⟨A, n, c, rfl, hl, hc⟩ := hx
  have HB := Lib.hid (heap_alloc_new w (.cells #[.int .i64 x.idx, .slice A n c] 24))
  have HL := Lib.hid hl
  have hlen := hl.1
  obtain ⟨q0, q1, _, _⟩ := box2 HB.out (Ext.rfl_ _)
  clear hl
  by_cases hm : mayW x = true
  · have HM := Lib.hid hm
    obtain ⟨h1, h2, h3, h4⟩ := mayW_iff.1 hm
    have HW := Lib.hid (wrL_may hm)
    clear hm
    go_enter Try.func12, Try.ntmps12
    go_wp2_with fail
    refine (wmay_any _ x _ (HX.out.ext (by with_reducible (repeat (first | exact Ext.rfl_ _ | assumption | refine Ext.drew ?_ | refine Ext.drewN ?_ _ | refine Ext.alloc ?_ _ | refine Ext.trans ?_ (by assumption)))))).mono ?_
    rintro e w1 ⟨rfl, hw1⟩
    rw [HM.out]
    obtain ⟨r0, r1, _, _⟩ := box2 HB.out hw1
    have X1 := Lib.hid (show Ext w w1 from Ext.trans (by with_reducible (repeat (first | exact Ext.rfl_ _ | assumption | refine Ext.drew ?_ | refine Ext.drewN ?_ _ | refine Ext.alloc ?_ _ | refine Ext.trans ?_ (by assumption)))) hw1)
    have Y1 := Lib.hid hw1
    clear hw1
    go_wp2_with fail
    refine (list_any A n c x.es _ (HL.out.ext X1.out)).mono ?_
    rintro e w2 ⟨v2, rfl, o2, hw2⟩
    rw [HW.out.2]
    rw [HW.out.1] at o2
    obtain ⟨A2, n2, c2, rfl, l2, R2', _⟩ := o2.formN
    have hn2 : n2 ≤ 4400000000 := by rw [← R2'.1]; have := lisB_len x.es; omega
    have R2 := Lib.hid R2'
    have X2 := Lib.hid (X1.out.trans hw2)
    obtain ⟨s0, s1, _, _⟩ := box2 HB.out (Y1.out.trans hw2)
    have hwr : IntKind.u64.wrap x.idx = x.idx := by rw [IntKind.wrap_u64]; omega
    have hwm : x.idx % 18446744073709551616 = x.idx := by omega
    clear o2 R2' r0 r1 q0 q1 hw2
    go_wp2_with fail
    refine (number_z x.idx _ (by omega) (by omega)).mono ?_
    rintro e w3 ⟨v3, rfl, o3, hw3⟩
    obtain ⟨A3, n3, c3, rfl, l3, R3', _⟩ := o3.formN
    have R3 := Lib.hid R3'
    have X3 := Lib.hid (X2.out.trans hw3)
    have hn3 : n3 ≤ 10 := by rw [← R3'.1]; exact numB_length _
    have R23 := Lib.hid (R2.out.ext hw3)
    clear o3 R3' s0 s1 hw3
    go_wp2_with fail
    refine (wbytes_any A2 n2 c2 (lisB x.es) _ R23.out (by unfold B40; omega)).mono ?_
    rintro e w4 ⟨v4, rfl, o4, hw4⟩
    obtain ⟨A4, n4, c4, rfl, l4, R4', _⟩ := o4.formN
    have hn4 : n4 ≤ 4400000010 := by rw [← R4'.1]; unfold bytB; rw [List.length_append, R2.out.1]; have := numB_length n2; omega
    have X4 := Lib.hid (X3.out.trans hw4)
    have hbb : RdBB (w4.alloc (.cells #[.slice A3 n3 c3, .slice A4 n4 c4] 29)) (some ⟨w4.heap.size, 0, none⟩) 2 [numB x.idx.toNat, bytB (lisB x.es)] := RdBB.new2 (R3.out.ext hw4) R4'
    have HBB := Lib.hid hbb
    have hpl : (payB x).length = n3 + n4 := by unfold payB; rw [List.length_append, R3.out.1, R4'.1]
    have hfl : [numB x.idx.toNat, bytB (lisB x.es)].flatten = payB x := by unfold payB; simp
    have HPL := Lib.hid hpl
    have HFL := Lib.hid hfl
    clear o4 R4' hw4 hbb hpl hfl
    go_wp2_with fail
    refine (join_any _ 2 2 _ _ HBB.out (by decide) (by rw [HFL.out, HPL.out]; unfold B47; omega)).mono ?_
    rintro e w5 ⟨v5, rfl, o5, hw5⟩
    rw [HFL.out] at o5
    obtain ⟨A5, n5, c5, rfl, l5, R5', _⟩ := o5.formN
    have hn5 : n5 ≤ 4400000020 := by rw [← R5'.1, HPL.out]; omega
    have R5 := Lib.hid R5'
    have X5 := Lib.hid (show Ext w w5 from (X4.out.alloc _).trans hw5)
    clear o5 R5' hw5
    go_wp2_with fail
    refine (fput_any A5 n5 c5 (payB x) _ R5.out (by unfold B40; omega)).mono ?_
    rintro e w6 ⟨v6, rfl, o6, hw6⟩
    have O6 := Lib.hid (o6.mono X5.out.size)
    have X6 := Lib.hid (X5.out.trans hw6)
    clear o6 hw6
    go_wp2
    go_ret2
    have hN : wrWN x = fpN (payB x) := by
      unfold wrWN fpN
      have := fpay_pos x
      rw [if_pos HM.out, if_neg (by omega : ¬ (payB x).length = 0)]
    have hB : wrW x = fpB (payB x) := by
      unfold wrW fpB
      simp only [HM.out, true_and]
    rw [hN, hB]
    exact ⟨v6, rfl, O6.out, X6.out⟩
  · have hmf : mayW x = false := by simpa using hm
    have HM := Lib.hid hmf
    have hN : wrWN x = 2 := by unfold wrWN; rw [if_neg hm]
    have hB : wrW x = [] := by unfold wrW; rw [if_neg (fun h => hm h.1)]
    rw [hN, hB]
    clear hm hmf hN hB
    go_enter Try.func12, Try.ntmps12
    go_wp2_with fail
    refine (wmay_any _ x _ (HX.out.ext (by with_reducible (repeat (first | exact Ext.rfl_ _ | assumption | refine Ext.drew ?_ | refine Ext.drewN ?_ _ | refine Ext.alloc ?_ _ | refine Ext.trans ?_ (by assumption)))))).mono ?_
    rintro e w1 ⟨rfl, hw1⟩
    rw [HM.out]
    go_wp2
    go_ret2
    exact ⟨_, rfl, OwnB.nil _ _, (by with_reducible (repeat (first | exact Ext.rfl_ _ | assumption | refine Ext.drew ?_ | refine Ext.drewN ?_ _ | refine Ext.alloc ?_ _ | refine Ext.trans ?_ (by assumption))))⟩

set_option maxRecDepth 100000 in
set_option maxHeartbeats 4000000 in
theorem rpayload_any (v : Value) (x : Bat) (w : World) (hx : RdB w v x) (hm : mayW x = true) :
    Calls Try.prog 18 #[v] w fun e w' => ∃ v', e = .returned v' ∧ OwnB w' w.heap.size v' (payB x) ∧ Ext w w' := by
  obtain ⟨A, n, c, rfl, hl, hc⟩ := hx
  have HB := Lib.hid (heap_alloc_new w (.cells #[.int .i64 x.idx, .slice A n c] 24))
  have HL := Lib.hid hl
  have hlen := hl.1
  obtain ⟨h1, h2, h3, h4⟩ := mayW_iff.1 hm
  have H4 := Lib.hid h4
  have hn6 : n ≤ 65536 := by omega
  have hwr : IntKind.u64.wrap x.idx = x.idx := by rw [IntKind.wrap_u64]; omega
  have hwm : x.idx % 18446744073709551616 = x.idx := by omega
  have hll := lisB_len x.es
  obtain ⟨W, hW⟩ : ∃ W, W = w.alloc (.cells #[.int .i64 x.idx, .slice A n c] 24) := ⟨_, rfl⟩
  have HBW := Lib.hid (show W.heap[w.heap.size]? = _ from hW ▸ HB.out)
  have hXW : Ext w W := by rw [hW]; exact (by with_reducible (repeat (first | exact Ext.rfl_ _ | assumption | refine Ext.drew ?_ | refine Ext.drewN ?_ _ | refine Ext.alloc ?_ _ | refine Ext.trans ?_ (by assumption))))
  have HXW := Lib.hid hXW
  clear hl hm h4
  go_enter Try.func18, Try.ntmps18
  go_wp2
  rw [← hW]
  clear hW HB hXW
  refine wp_region_held_drew (S := (fun w' => w'.cell? ⟨w.heap.size, 0, none⟩ = some (.int .i64 x.idx) ∧ w'.cell? ⟨w.heap.size, 1, none⟩ = some (.slice A n c) ∧ w'.frozen? ⟨w.heap.size, 0, none⟩ = false ∧ w'.frozen? ⟨w.heap.size, 1, none⟩ = false)) (by kernel_rfl) (by (try dsimp only); exact box2 HBW.out (by with_reducible (repeat (first | exact Ext.rfl_ _ | assumption | refine Ext.drew ?_ | refine Ext.drewN ?_ _ | refine Ext.alloc ?_ _ | refine Ext.trans ?_ (by assumption))))) (fun hHeld => ?_)
  refine wpAnyH_take (i := 0) (oi := ({ dst := some 3, op := Go.Op.fieldAddr 24 (Go.Operand.tmp 1) 0, type := 0, pos := "ref.go:35", after := #[], guard := none } : Go.Oper)) (v := ?v1) rfl (by kernel_rfl) (by kernel_rfl) (by kernel_rfl) (fun _ _ _ h => h) (Or.inl ⟨by rfl, ?hy1⟩) (by assumption) ?rest1
  case hy1 => (intro w hSw; (try dsimp only at hSw); go_simp; (try with_reducible rfl))
  (try simp only [Act.put, List.getElem_toArray, List.getElem_cons_zero, List.getElem_cons_succ, List.setIfInBounds_toArray, List.set_cons_zero, List.set_cons_succ])
  refine wpAnyH_take (i := 1) (oi := ({ dst := some 4, op := Go.Op.load 2 (Go.Operand.tmp 3), type := 2, pos := "ref.go:35", after := #[{ on := 0, ground := Go.Ground.data }], guard := none } : Go.Oper)) (v := ?v2) rfl (by kernel_rfl) (by kernel_rfl) (by kernel_rfl) (fun _ _ _ h => h) (Or.inl ⟨by rfl, ?hy2⟩) (by assumption) ?rest2
  case hy2 => (intro w hSw; (try dsimp only at hSw); go_simp; (try with_reducible rfl))
  (try simp only [Act.put, List.getElem_toArray, List.getElem_cons_zero, List.getElem_cons_succ, List.setIfInBounds_toArray, List.set_cons_zero, List.set_cons_succ])
  refine wpAnyH_take (i := 2) (oi := ({ dst := some 5, op := Go.Op.convert 2 55 (Go.Operand.tmp 4), type := 55, pos := "ref.go:35", after := #[{ on := 1, ground := Go.Ground.data }], guard := none } : Go.Oper)) (v := ?v3) rfl (by kernel_rfl) (by kernel_rfl) (by kernel_rfl) (fun _ _ _ h => h) (Or.inl ⟨by rfl, ?hy3⟩) (by assumption) ?rest3
  case hy3 => (intro w hSw; (try dsimp only at hSw); go_simp; (try with_reducible rfl))
  (try simp only [Act.put, List.getElem_toArray, List.getElem_cons_zero, List.getElem_cons_succ, List.setIfInBounds_toArray, List.set_cons_zero, List.set_cons_succ])
  refine wpAnyH_take (i := 4) (oi := ({ dst := some 7, op := Go.Op.fieldAddr 24 (Go.Operand.tmp 1) 1, type := 0, pos := "ref.go:35", after := #[], guard := none } : Go.Oper)) (v := ?v4) rfl (by kernel_rfl) (by kernel_rfl) (by kernel_rfl) (fun _ _ _ h => h) (Or.inl ⟨by rfl, ?hy4⟩) (by assumption) ?rest4
  case hy4 => (intro w hSw; (try dsimp only at hSw); go_simp; (try with_reducible rfl))
  (try simp only [Act.put, List.getElem_toArray, List.getElem_cons_zero, List.getElem_cons_succ, List.setIfInBounds_toArray, List.set_cons_zero, List.set_cons_succ])
  refine wpAnyH_take (i := 5) (oi := ({ dst := some 8, op := Go.Op.load 22 (Go.Operand.tmp 7), type := 22, pos := "ref.go:35", after := #[{ on := 4, ground := Go.Ground.data }], guard := none } : Go.Oper)) (v := ?v5) rfl (by kernel_rfl) (by kernel_rfl) (by kernel_rfl) (fun _ _ _ h => h) (Or.inl ⟨by rfl, ?hy5⟩) (by assumption) ?rest5
  case hy5 => (intro w hSw; (try dsimp only at hSw); go_simp; (try with_reducible rfl))
  (try simp only [Act.put, List.getElem_toArray, List.getElem_cons_zero, List.getElem_cons_succ, List.setIfInBounds_toArray, List.set_cons_zero, List.set_cons_succ])
  refine wpAnyH_ready (rs := [3]) (by kernel_rfl) (by simp) ?_
  refine AllReadyH.cons (o := ({ dst := some 6, op := Go.Op.call { callee := Go.Callee.value (Go.Operand.func 38), args := #[Go.Operand.tmp 5], argTypes := #[55] }, type := 29, pos := "ref.go:35", after := #[{ on := 2, ground := Go.Ground.data }], guard := none } : Go.Oper)) rfl (fun K hK => ?_) AllReadyH.nil
  go_simp
  (first | (go_at_call 38; refine (r1number_z x.idx _ (by omega) (by omega)).mono ?_; rintro e wn ⟨vn, rfl, on, hwn⟩; have ON := Lib.hid (on.mono (Ext.size (w := W) (show Ext W _ from (by with_reducible (repeat (first | exact Ext.rfl_ _ | assumption | refine Ext.drew ?_ | refine Ext.drewN ?_ _ | refine Ext.alloc ?_ _ | refine Ext.trans ?_ (by assumption))))))); clear on) | (go_at_call 40; refine (rlist_any A n c x.es _ (HL.out.ext (HXW.out.trans (by with_reducible (repeat (first | exact Ext.rfl_ _ | assumption | refine Ext.drew ?_ | refine Ext.drewN ?_ _ | refine Ext.alloc ?_ _ | refine Ext.trans ?_ (by assumption)))))) hn6 H4.out).mono ?_; rintro e wl ⟨vl, rfl, ol, hwl⟩; obtain ⟨Al, nl, cl, rfl, ll, rl, _⟩ := ol.formN; have hnl := rl.1; have RL := Lib.hid rl; clear ol rl) | (go_at_call 39; refine (r1bytes_any Al nl cl (lisB x.es) _ (RL.out.ext (by with_reducible (repeat (first | exact Ext.rfl_ _ | assumption | refine Ext.drew ?_ | refine Ext.drewN ?_ _ | refine Ext.alloc ?_ _ | refine Ext.trans ?_ (by assumption))))) (by unfold B40; omega)).mono ?_; rintro e wb ⟨vb, rfl, ob, hwb⟩; obtain ⟨Ab, nb, cb, rfl, lb, rb, _⟩ := ob.formN; have RB := Lib.hid rb; clear ob rb))
  (try (go_wp2_with fail))
  refine hK.out _ _ (by (try dsimp only); exact box2 HBW.out (by with_reducible (repeat (first | exact Ext.rfl_ _ | assumption | refine Ext.drew ?_ | refine Ext.drewN ?_ _ | refine Ext.alloc ?_ _ | refine Ext.trans ?_ (by assumption))))) (fun hHeld => ?_)
  clear hK K
  (try simp only [Act.put, List.getElem_toArray, List.getElem_cons_zero, List.getElem_cons_succ, List.setIfInBounds_toArray, List.set_cons_zero, List.set_cons_succ])
  refine wpAnyH_ready (rs := [6]) (by kernel_rfl) (by simp) ?_
  refine AllReadyH.cons (o := ({ dst := some 9, op := Go.Op.call { callee := Go.Callee.value (Go.Operand.func 40), args := #[Go.Operand.tmp 8], argTypes := #[22] }, type := 29, pos := "ref.go:35", after := #[{ on := 5, ground := Go.Ground.data }, { on := 3, ground := Go.Ground.chain }], guard := none } : Go.Oper)) rfl (fun K hK => ?_) AllReadyH.nil
  go_simp
  (first | (go_at_call 38; refine (r1number_z x.idx _ (by omega) (by omega)).mono ?_; rintro e wn ⟨vn, rfl, on, hwn⟩; have ON := Lib.hid (on.mono (Ext.size (w := W) (show Ext W _ from (by with_reducible (repeat (first | exact Ext.rfl_ _ | assumption | refine Ext.drew ?_ | refine Ext.drewN ?_ _ | refine Ext.alloc ?_ _ | refine Ext.trans ?_ (by assumption))))))); clear on) | (go_at_call 40; refine (rlist_any A n c x.es _ (HL.out.ext (HXW.out.trans (by with_reducible (repeat (first | exact Ext.rfl_ _ | assumption | refine Ext.drew ?_ | refine Ext.drewN ?_ _ | refine Ext.alloc ?_ _ | refine Ext.trans ?_ (by assumption)))))) hn6 H4.out).mono ?_; rintro e wl ⟨vl, rfl, ol, hwl⟩; obtain ⟨Al, nl, cl, rfl, ll, rl, _⟩ := ol.formN; have hnl := rl.1; have RL := Lib.hid rl; clear ol rl) | (go_at_call 39; refine (r1bytes_any Al nl cl (lisB x.es) _ (RL.out.ext (by with_reducible (repeat (first | exact Ext.rfl_ _ | assumption | refine Ext.drew ?_ | refine Ext.drewN ?_ _ | refine Ext.alloc ?_ _ | refine Ext.trans ?_ (by assumption))))) (by unfold B40; omega)).mono ?_; rintro e wb ⟨vb, rfl, ob, hwb⟩; obtain ⟨Ab, nb, cb, rfl, lb, rb, _⟩ := ob.formN; have RB := Lib.hid rb; clear ob rb))
  (try (go_wp2_with fail))
  refine hK.out _ _ (by (try dsimp only); exact box2 HBW.out (by with_reducible (repeat (first | exact Ext.rfl_ _ | assumption | refine Ext.drew ?_ | refine Ext.drewN ?_ _ | refine Ext.alloc ?_ _ | refine Ext.trans ?_ (by assumption))))) (fun hHeld => ?_)
  clear hK K
  (try simp only [Act.put, List.getElem_toArray, List.getElem_cons_zero, List.getElem_cons_succ, List.setIfInBounds_toArray, List.set_cons_zero, List.set_cons_succ])
  refine wpAnyH_ready (rs := [7]) (by kernel_rfl) (by simp) ?_
  refine AllReadyH.cons (o := ({ dst := some 10, op := Go.Op.call { callee := Go.Callee.value (Go.Operand.func 39), args := #[Go.Operand.tmp 9], argTypes := #[29] }, type := 29, pos := "ref.go:35", after := #[{ on := 6, ground := Go.Ground.data }, { on := 6, ground := Go.Ground.chain }], guard := none } : Go.Oper)) rfl (fun K hK => ?_) AllReadyH.nil
  go_simp
  (first | (go_at_call 38; refine (r1number_z x.idx _ (by omega) (by omega)).mono ?_; rintro e wn ⟨vn, rfl, on, hwn⟩; have ON := Lib.hid (on.mono (Ext.size (w := W) (show Ext W _ from (by with_reducible (repeat (first | exact Ext.rfl_ _ | assumption | refine Ext.drew ?_ | refine Ext.drewN ?_ _ | refine Ext.alloc ?_ _ | refine Ext.trans ?_ (by assumption))))))); clear on) | (go_at_call 40; refine (rlist_any A n c x.es _ (HL.out.ext (HXW.out.trans (by with_reducible (repeat (first | exact Ext.rfl_ _ | assumption | refine Ext.drew ?_ | refine Ext.drewN ?_ _ | refine Ext.alloc ?_ _ | refine Ext.trans ?_ (by assumption)))))) hn6 H4.out).mono ?_; rintro e wl ⟨vl, rfl, ol, hwl⟩; obtain ⟨Al, nl, cl, rfl, ll, rl, _⟩ := ol.formN; have hnl := rl.1; have RL := Lib.hid rl; clear ol rl) | (go_at_call 39; refine (r1bytes_any Al nl cl (lisB x.es) _ (RL.out.ext (by with_reducible (repeat (first | exact Ext.rfl_ _ | assumption | refine Ext.drew ?_ | refine Ext.drewN ?_ _ | refine Ext.alloc ?_ _ | refine Ext.trans ?_ (by assumption))))) (by unfold B40; omega)).mono ?_; rintro e wb ⟨vb, rfl, ob, hwb⟩; obtain ⟨Ab, nb, cb, rfl, lb, rb, _⟩ := ob.formN; have RB := Lib.hid rb; clear ob rb))
  (try (go_wp2_with fail))
  refine hK.out _ _ (by (try dsimp only); exact box2 HBW.out (by with_reducible (repeat (first | exact Ext.rfl_ _ | assumption | refine Ext.drew ?_ | refine Ext.drewN ?_ _ | refine Ext.alloc ?_ _ | refine Ext.trans ?_ (by assumption))))) (fun hHeld => ?_)
  clear hK K
  (try simp only [Act.put, List.getElem_toArray, List.getElem_cons_zero, List.getElem_cons_succ, List.setIfInBounds_toArray, List.set_cons_zero, List.set_cons_succ])
  refine wpAnyH_ready (rs := [8]) (by kernel_rfl) (by simp) ?_
  refine AllReadyH.cons (o := ({ dst := some 11, op := Go.Op.call { callee := Go.Callee.builtin Go.Builtin.append, args := #[Go.Operand.tmp 6, Go.Operand.tmp 10], argTypes := #[29, 29] }, type := 29, pos := "ref.go:35", after := #[{ on := 3, ground := Go.Ground.data }, { on := 7, ground := Go.Ground.data }, { on := 7, ground := Go.Ground.chain }], guard := none } : Go.Oper)) rfl (fun K hK => ?_) AllReadyH.nil
  refine step_app rfl _ _ rfl W.heap.size vn (numB x.idx.toNat) rfl (ON.out.ext (by with_reducible (repeat (first | exact Ext.rfl_ _ | assumption | refine Ext.drew ?_ | refine Ext.drewN ?_ _ | refine Ext.alloc ?_ _ | refine Ext.trans ?_ (by assumption))))) Ab nb cb (bytB (lisB x.es)) rfl (RB.out.ext (by with_reducible (repeat (first | exact Ext.rfl_ _ | assumption | refine Ext.drew ?_ | refine Ext.drewN ?_ _ | refine Ext.alloc ?_ _ | refine Ext.trans ?_ (by assumption))))) (by unfold bytB B47; rw [List.length_append]; have := numB_length (lisB x.es).length; have := numB_length x.idx.toNat; omega) (Ext.size (w := W) (show Ext W _ from (by with_reducible (repeat (first | exact Ext.rfl_ _ | assumption | refine Ext.drew ?_ | refine Ext.drewN ?_ _ | refine Ext.alloc ?_ _ | refine Ext.trans ?_ (by assumption)))))) ?_; intro v9 w9 o9 g9 _; have X9 : Ext W w9 := Ext.growBy (show Ext W _ from (by with_reducible (repeat (first | exact Ext.rfl_ _ | assumption | refine Ext.drew ?_ | refine Ext.drewN ?_ _ | refine Ext.alloc ?_ _ | refine Ext.trans ?_ (by assumption))))) g9 (ON.out.ext (by with_reducible (repeat (first | exact Ext.rfl_ _ | assumption | refine Ext.drew ?_ | refine Ext.drewN ?_ _ | refine Ext.alloc ?_ _ | refine Ext.trans ?_ (by assumption))))) (Nat.le_refl _)
  refine hK.out _ _ (by (try dsimp only); exact box2 HBW.out (by with_reducible (repeat (first | exact Ext.rfl_ _ | assumption | refine Ext.drew ?_ | refine Ext.drewN ?_ _ | refine Ext.alloc ?_ _ | refine Ext.trans ?_ (by assumption))))) (fun hHeld => ?_)
  clear hK K
  (try simp only [Act.put, List.getElem_toArray, List.getElem_cons_zero, List.getElem_cons_succ, List.setIfInBounds_toArray, List.set_cons_zero, List.set_cons_succ])
  refine wpAnyH_take (i := 9) (oi := ({ dst := some 2, op := Go.Op.assign (Go.Operand.tmp 11), type := 29, pos := "ref.go:35", after := #[{ on := 8, ground := Go.Ground.data }, { on := 8, ground := Go.Ground.chain }, { on := 0, ground := Go.Ground.phase }, { on := 1, ground := Go.Ground.phase }, { on := 2, ground := Go.Ground.phase }, { on := 3, ground := Go.Ground.phase }, { on := 4, ground := Go.Ground.phase }, { on := 5, ground := Go.Ground.phase }, { on := 6, ground := Go.Ground.phase }, { on := 7, ground := Go.Ground.phase }, { on := 8, ground := Go.Ground.phase }], guard := none } : Go.Oper)) (v := ?v6) rfl (by kernel_rfl) (by kernel_rfl) (by kernel_rfl) (fun _ _ _ h => h) (Or.inl ⟨by rfl, ?hy6⟩) (by assumption) ?rest6
  case hy6 => (intro w hSw; (try dsimp only at hSw); go_simp; (try with_reducible rfl))
  (try simp only [Act.put, List.getElem_toArray, List.getElem_cons_zero, List.getElem_cons_succ, List.setIfInBounds_toArray, List.set_cons_zero, List.set_cons_succ])
  refine wpAnyH_done (by kernel_rfl) ?_ _
  all_goals
    go_wp2
    go_ret
    exact ⟨v9, rfl, (show OwnB w9 W.heap.size v9 (payB x) from o9).mono HXW.out.size, HXW.out.trans X9⟩

end Go.Proofs.Ythdahmicjlplcaa
