/- Contracts of ikey.List with all that it calls. Conditions: the list reads. -/
import Derived.Test.YthdahmicjlplcaaWrLen
import Derived.Test.YthdahmicjlplcaaOwnBB
import Derived.Test.YthdahmicjlplcaaLawL
namespace Go.Proofs.Ythdahmicjlplcaa
set_option linter.unusedSimpArgs false
set_option linter.unusedVariables false
open Go.RowKit

set_option maxRecDepth 100000 in
theorem listbad_any (v : Value) (x : Ent) (w : World) (hx : RdE w v x) :
    Calls Try.prog 51 #[v] w fun e w' => e = .returned (.bool (!mayE x)) ∧ Ext w w' := by
  have HX := Lib.hid hx
  obtain ⟨A, n, c, A', n', c', rfl, _⟩ := hx
  go_enter Try.func51, Try.ntmps51
  go_wp2_with fail
  refine (may_any _ x _ (HX.out.ext (by with_reducible (repeat (first | exact Ext.rfl_ _ | assumption | refine Ext.drew ?_ | refine Ext.drewN ?_ _ | refine Ext.alloc ?_ _ | refine Ext.trans ?_ (by assumption)))))).mono ?_
  rintro e w1 ⟨rfl, hw1⟩
  go_wp2
  go_ret
  exact ⟨rfl, (by with_reducible (repeat (first | exact Ext.rfl_ _ | assumption | refine Ext.drew ?_ | refine Ext.drewN ?_ _ | refine Ext.alloc ?_ _ | refine Ext.trans ?_ (by assumption))))⟩

/-- An entry's bytes in a list. -/
def lstE (x : Ent) : Bs := bytB (wrE x)

set_option maxRecDepth 100000 in
theorem list2_any (v : Value) (x : Ent) (w : World) (hx : RdE w v x) :
    Calls Try.prog 53 #[v] w fun e w' => ∃ v', e = .returned v' ∧ OwnB w' w.heap.size v' (lstE x) ∧ Ext w w' := by
  have HX := Lib.hid hx
  obtain ⟨A, n, c, A', n', c', rfl, _, _, _, hn, _, hn'⟩ := hx
  have hlen : (wrE x).length ≤ B40 := by
    by_cases hm : mayE x = true
    · rw [wrE_yes hm]
      have hM := mayE_iff.1 hm
      have j1 := numB_length x.key.length
      have j2 := numB_length x.seq.toNat
      have j3 := numB_length x.kind.toNat
      have j4 := numB_length x.val.length
      have k1 := hM.2.1
      have k2 := hM.2.2.2.2.1
      unfold entB bytB B40
      split <;> simp <;> omega
    · rw [wrE_no hm]; exact Nat.zero_le _
  have HLEN := Lib.hid hlen
  clear hlen
  go_enter Try.func53, Try.ntmps53
  go_wp2_with fail
  refine (bytes_any _ x _ (HX.out.ext (by with_reducible (repeat (first | exact Ext.rfl_ _ | assumption | refine Ext.drew ?_ | refine Ext.drewN ?_ _ | refine Ext.alloc ?_ _ | refine Ext.trans ?_ (by assumption)))))).mono ?_
  rintro e w1 ⟨v1, rfl, o1, hw1⟩
  obtain ⟨A1, n1, c1, rfl, l1, r1, i1⟩ := o1.formN
  go_wp2_with fail
  refine (wbytes_any A1 n1 c1 (wrE x) _ r1 (by rw [← r1.1]; exact HLEN.out)).mono ?_
  rintro e w2 ⟨v2, rfl, o2, hw2⟩
  have s1 : w.heap.size ≤ w1.heap.size := Ext.size (w := w) (w' := w1) (by with_reducible (repeat (first | exact Ext.rfl_ _ | assumption | refine Ext.drew ?_ | refine Ext.drewN ?_ _ | refine Ext.alloc ?_ _ | refine Ext.trans ?_ (by assumption))))
  go_wp2
  go_ret
  exact ⟨_, rfl, o2.mono s1, (by with_reducible (repeat (first | exact Ext.rfl_ _ | assumption | refine Ext.drew ?_ | refine Ext.drewN ?_ _ | refine Ext.alloc ?_ _ | refine Ext.trans ?_ (by assumption))))⟩

def firstBad (xs : List Ent) : Int := match xs.findIdx? (fun x => !mayE x) with | some k => k | none => -1

set_option maxRecDepth 100000 in
set_option maxHeartbeats 1000000 in
theorem idxbad_any (A : Option Addr) (n c : Nat) (xs : List Ent) (w : World) (hl : RdL w A n xs) :
    Calls Try.prog 59 #[.slice A n c, .func (.func 51) #[] #[]] w fun e w' => (∃ z : Int, e = .returned (.int .i64 z) ∧ (0 ≤ z ↔ ∃ x ∈ xs, mayE x = false)) ∧ Ext w w' := by
  have HL := Lib.hid hl
  have hn := hl.2.1
  unfold B41 at hn
  clear hl
  go_enter Try.func59, Try.ntmps59
  go_wp2
  go_loopw [8] (fun i wr => ∃ k : Nat, i = .int .i64 k ∧ k ≤ n ∧ Hid (∀ x ∈ xs.take k, mayE x = true) ∧ Ext w wr) (fun i _ => n - (intOf i).toNat)
  case atStart => exact ⟨0, rfl, Nat.zero_le _, Lib.hid (by simp), Ext.rfl_ _⟩
  case round =>
    obtain ⟨k, rfl, hk, h1, hE⟩ := hrel
    by_cases c1 : (k : Int) < (n : Int)
    · obtain ⟨b, o, A1, n1, c1', A2, n2, c2', x, rfl, hx, ⟨q0, q1, q2, q3⟩, hr⟩ := HL.out.at_ k (by omega)
      have hke : k < xs.length := by rw [HL.out.1]; omega
      have hxe : xs[k] = x := by rw [List.getElem?_eq_getElem hke] at hx; exact Option.some.inj hx
      have g0 := hE.keeps _ _ _ q0
      have g1 := hE.keeps _ _ _ q1
      have g2 := hE.keeps _ _ _ q2
      have g3 := hE.keeps _ _ _ q3
      have HR := Lib.hid (hr.ext hE)
      have HXE := Lib.hid hxe
      clear q0 q1 q2 q3 hr hx hxe
      by_cases hm : mayE x = true
      · have HM := Lib.hid hm
        clear hm
        go_wp2_with fail
        refine (listbad_any _ x _ HR.out).mono ?_
        rintro e w1 ⟨rfl, hw1⟩
        rw [HM.out]
        go_wp2
        go_roundw
        case rel =>
          refine ⟨k + 1, by go_num, by omega, Lib.hid ?_, (by with_reducible (repeat (first | exact Ext.rfl_ _ | assumption | refine Ext.drew ?_ | refine Ext.drewN ?_ _ | refine Ext.alloc ?_ _ | refine Ext.trans ?_ (by assumption))))⟩
          intro y hy
          rw [List.take_succ_eq_append_getElem hke, List.mem_append] at hy
          rcases hy with hy | hy
          · exact h1.out y hy
          · simp at hy; rw [hy, HXE.out]; exact HM.out
        case measure => simp [intOf]; omega
      · have hm' : mayE x = false := by simpa using hm
        have HM := Lib.hid hm'
        clear hm hm'
        go_wp2_with fail
        refine (listbad_any _ x _ HR.out).mono ?_
        rintro e w1 ⟨rfl, hw1⟩
        rw [HM.out]
        go_wp2
        go_ret
        exact ⟨⟨_, rfl, fun _ => ⟨x, HXE.out ▸ List.getElem_mem hke, HM.out⟩, fun _ => by omega⟩, (by with_reducible (repeat (first | exact Ext.rfl_ _ | assumption | refine Ext.drew ?_ | refine Ext.drewN ?_ _ | refine Ext.alloc ?_ _ | refine Ext.trans ?_ (by assumption))))⟩
    · go_wp2
      go_ret
      refine ⟨⟨_, rfl, fun h => absurd h (by omega), fun ⟨x, hx, hm⟩ => ?_⟩, hE⟩
      have e0 : xs.take k = xs := List.take_of_length_le (by rw [HL.out.1]; omega)
      have := h1.out x (by rw [e0]; exact hx)
      rw [hm] at this; cases this

/-- May all be? -/
def allMay (xs : List Ent) : Bool := xs.all mayE

set_option maxRecDepth 100000 in
theorem contbad_any (A : Option Addr) (n c : Nat) (xs : List Ent) (w : World) (hl : RdL w A n xs) :
    Calls Try.prog 33 #[.slice A n c, .func (.func 51) #[] #[]] w fun e w' => e = .returned (.bool (!allMay xs)) ∧ Ext w w' := by
  have HL := Lib.hid hl
  clear hl
  go_enter Try.func33, Try.ntmps33
  go_wp2_with fail
  refine (idxbad_any A n c xs _ HL.out).mono ?_
  rintro e w1 ⟨⟨z, rfl, hz⟩, hw1⟩
  have hb : decide (0 ≤ z) = !allMay xs := by
    by_cases h : 0 ≤ z
    · obtain ⟨x, hx, hm⟩ := hz.1 h
      have : allMay xs = false := by
        unfold allMay
        cases hq : xs.all mayE with
        | false => rfl
        | true => have := List.all_eq_true.1 hq x hx; rw [hm] at this; cases this
      simp [h, this]
    · have : allMay xs = true := by
        unfold allMay
        rw [List.all_eq_true]
        intro x hx
        cases hm : mayE x with
        | true => rfl
        | false => exact absurd (hz.2 ⟨x, hx, hm⟩) h
      simp [h, this]
  have HB := Lib.hid hb
  clear hz hb
  go_wp2
  go_ret
  exact ⟨ret_bool (by first | exact HB.out | (rw [← HB.out])), (by with_reducible (repeat (first | exact Ext.rfl_ _ | assumption | refine Ext.drew ?_ | refine Ext.drewN ?_ _ | refine Ext.alloc ?_ _ | refine Ext.trans ?_ (by assumption))))⟩

theorem lstE_len (x : Ent) : (lstE x).length ≤ 65640 := by
  have h1 := wrE_len x
  have h2 := numB_length (wrE x).length
  unfold lstE bytB
  rw [List.length_append]; omega
theorem flat_len (xs : List Ent) : ((xs.map lstE).flatten).length ≤ 65640 * xs.length := by
  induction xs with
  | nil => simp
  | cons x xs ih =>
    rw [List.map_cons, List.flatten_cons, List.length_append, List.length_cons]
    have := lstE_len x
    omega

/-- A list's bytes. -/
def lisB (xs : List Ent) : Bs := numB xs.length ++ (xs.map lstE).flatten

set_option maxRecDepth 100000 in
set_option maxHeartbeats 2000000 in
theorem put_list_any (A : Option Addr) (n c : Nat) (xs : List Ent) (w : World) (hl : RdL w A n xs) (hn : n ≤ 65536) :
    Calls Try.prog 52 #[.slice A n c, .func (.func 53) #[] #[]] w fun e w' => ∃ v', e = .returned (.tuple #[v', .int .i64 0]) ∧ OwnB w' w.heap.size v' (lisB xs) ∧ Ext w w' := by
  have HL := Lib.hid hl
  have hnil := fun (w : World) (f : Fn) (x y : Array Value) => run_eql_func_nil (P := Try.prog) w 80 f x y Try.underlying80
  clear hl
  go_enter Try.func52, Try.ntmps52
  go_wp2_with fail
  refine (number_any n _ (by omega)).mono ?_
  rintro e w1 ⟨v1, rfl, o1, hw1⟩
  have HO1 := Lib.hid o1
  obtain ⟨A1, n1, c1, rfl, l1, r1, i1⟩ := o1.formN
  have hbb : OwnBB (w1.alloc (.cells #[.slice A1 n1 c1] 29)) w.heap.size (.slice (some ⟨w1.heap.size, 0, none⟩) 1 1) [numB n] := OwnBB.one r1 (Apt.own HO1.out) hw1.size
  have HBB := Lib.hid hbb
  clear hbb r1 o1 i1
  go_wp2
  go_loopw [6, 17] (fun v i wr => ∃ k : Nat, i = .int .i64 k ∧ k ≤ n ∧ Hid (OwnBB wr w.heap.size v (numB n :: (xs.take k).map lstE)) ∧ Ext w wr) (fun _ i _ => n - (intOf i).toNat)
  case atStart => exact ⟨0, rfl, Nat.zero_le _, HBB, (by with_reducible (repeat (first | exact Ext.rfl_ _ | assumption | refine Ext.drew ?_ | refine Ext.drewN ?_ _ | refine Ext.alloc ?_ _ | refine Ext.trans ?_ (by assumption))))⟩
  case round =>
    obtain ⟨k, rfl, hk, ho, hE⟩ := hrel
    by_cases c1 : (k : Int) < (n : Int)
    · obtain ⟨b, o, A2, n2, c2, B2, m2, d2, x, rfl, hx, ⟨q0, q1, q2, q3⟩, hr⟩ := HL.out.at_ k (by omega)
      have hke : k < xs.length := by rw [HL.out.1]; omega
      have hxe : xs[k] = x := by rw [List.getElem?_eq_getElem hke] at hx; exact Option.some.inj hx
      have g0 := hE.keeps _ _ _ q0
      have g1 := hE.keeps _ _ _ q1
      have g2 := hE.keeps _ _ _ q2
      have g3 := hE.keeps _ _ _ q3
      have HR := Lib.hid (hr.ext hE)
      have HXE := Lib.hid hxe
      have hlen : (numB n :: (xs.take k).map lstE).length + 1 ≤ B40 := by simp; unfold B40; omega
      have HLEN := Lib.hid hlen
      clear q0 q1 q2 q3 hr hx hxe hlen
      go_wp2_with fail
      refine (list2_any _ x _ HR.out).mono ?_
      rintro e w3 ⟨v3, rfl, o3, hw3⟩
      have HO3 := Lib.hid o3
      obtain ⟨A3, n3, c3, rfl, l3, r3, i3⟩ := o3.formN
      have hc3 := cnew w3 (.slice A3 n3 c3) 29
      have HC3 := Lib.hid hc3.1
      have HR3 := Lib.hid r3
      have HOB := Lib.hid (ho.out.ext hw3)
      have hE3 : Ext w w3 := hE.trans hw3
      have hbs : w.heap.size ≤ (w3.alloc (.cells #[.slice A3 n3 c3] 29)).heap.size := (hE3.alloc _).size
      have HBS := Lib.hid hbs
      clear o3 r3 i3 hc3 hbs ho hw3
      go_wp2_with (at_builtin; refine wp_appBB rfl _ _ rfl w.heap.size _ _ rfl (HOB.out.ext (Ext.alloc (Ext.rfl_ _) _)) A3 n3 c3 w3.heap.size (lstE x) rfl HC3.out (HR3.out.ext (Ext.alloc (Ext.rfl_ _) _)) ((Apt.own HO3.out).ext (Ext.alloc (Ext.rfl_ _) _)) HLEN.out HBS.out ?_; intro v5 w5 o5 g5; have x5 : Ext w w5 := Ext.growBB (hE3.alloc _) g5 (HOB.out.ext (Ext.alloc (Ext.rfl_ _) _)) (Nat.le_refl _); clear g5)
      go_roundw
      case rel =>
        refine ⟨k + 1, by go_num, by omega, Lib.hid ?_, x5⟩
        rw [List.take_succ_eq_append_getElem hke, HXE.out, List.map_append]
        simpa using o5
      case measure => simp [intOf]; omega
    · have e0 : xs.take k = xs := List.take_of_length_le (by rw [HL.out.1]; omega)
      have ho2 := ho.out
      rw [e0] at ho2
      obtain ⟨A5, n5, c5, rfl, _, r5⟩ := ho2.form
      have hfl : (numB n :: xs.map lstE).flatten.length ≤ B47 := by
        rw [List.flatten_cons, List.length_append]
        have h1 := flat_len xs
        have h2 := numB_length n
        have h3 := HL.out.1
        unfold B47
        rw [h3] at h1
        have : 65640 * n ≤ 65640 * 65536 := Nat.mul_le_mul_left _ hn
        omega
      have hn5 : n5 ≤ B40 := by rw [← r5.1]; simp [HL.out.1]; unfold B40; omega
      have HFL := Lib.hid hfl
      have HR5 := Lib.hid r5
      clear ho2 ho e0 r5 hfl
      go_wp2_with fail
      refine (join_any A5 n5 c5 (numB n :: xs.map lstE) _ HR5.out hn5 HFL.out).mono ?_
      rintro e w6 ⟨v6, rfl, o6, hw6⟩
      have hs6 := hE.size
      go_wp2
      go_ret2
      refine ⟨v6, rfl, ?_, hE.trans hw6⟩
      have := o6.mono (base' := w.heap.size) hs6
      unfold lisB
      rw [HL.out.1]
      simpa using this

/-- What ikey.List answers. -/
def wrL (xs : List Ent) : Bs := if xs.length ≤ 65536 ∧ allMay xs = true then lisB xs else []
def wrLN (xs : List Ent) : Int := if xs.length ≤ 65536 ∧ allMay xs = true then 0 else 2

set_option maxRecDepth 100000 in
set_option maxHeartbeats 1000000 in
theorem list_any (A : Option Addr) (n c : Nat) (xs : List Ent) (w : World) (hl : RdL w A n xs) :
    Calls Try.prog 26 #[.slice A n c] w fun e w' => ∃ v', e = .returned (.tuple #[v', .int .i64 (wrLN xs)]) ∧ OwnB w' w.heap.size v' (wrL xs) ∧ Ext w w' := by
  have HL := Lib.hid hl
  have hn := hl.2.1
  unfold B41 at hn
  have hxl := hl.1
  have HXL := Lib.hid hxl
  clear hl hxl
  by_cases h1 : (65536 : Int) < (n : Int)
  · have hb : ¬ (xs.length ≤ 65536 ∧ allMay xs = true) := fun h => by have := HXL.out; omega
    have e1 : wrL xs = [] := if_neg hb
    have e2 : wrLN xs = 2 := if_neg hb
    have E1 := Lib.hid e1
    have E2 := Lib.hid e2
    clear e1 e2 hb
    go_enter Try.func26, Try.ntmps26
    go_wp2
    go_ret2
    exact ⟨_, by rw [E2.out]; rfl, by rw [E1.out]; exact OwnB.nil _ _, Ext.rfl_ _⟩
  by_cases h2 : allMay xs = true
  · have hb : xs.length ≤ 65536 ∧ allMay xs = true := ⟨by have := HXL.out; omega, h2⟩
    have e1 : wrL xs = lisB xs := if_pos hb
    have e2 : wrLN xs = 0 := if_pos hb
    have E1 := Lib.hid e1
    have E2 := Lib.hid e2
    have H2 := Lib.hid h2
    clear e1 e2 hb h2
    go_enter Try.func26, Try.ntmps26
    go_wp2_with fail
    refine (contbad_any A n c xs _ HL.out).mono ?_
    rintro e w1 ⟨rfl, hw1⟩
    rw [H2.out]
    go_wp2_with fail
    refine (put_list_any A n c xs _ (HL.out.ext hw1) (by omega)).mono ?_
    rintro e w2 ⟨v2, rfl, o2, hw2⟩
    have hs := hw1.size
    go_wp2
    go_ret2
    exact ⟨_, by rw [E2.out]; rfl, by rw [E1.out]; exact o2.mono hs, (by with_reducible (repeat (first | exact Ext.rfl_ _ | assumption | refine Ext.drew ?_ | refine Ext.drewN ?_ _ | refine Ext.alloc ?_ _ | refine Ext.trans ?_ (by assumption))))⟩
  · have hb : ¬ (xs.length ≤ 65536 ∧ allMay xs = true) := fun h => h2 h.2
    have e1 : wrL xs = [] := if_neg hb
    have e2 : wrLN xs = 2 := if_neg hb
    have h2' : allMay xs = false := by simpa using h2
    have E1 := Lib.hid e1
    have E2 := Lib.hid e2
    have H2 := Lib.hid h2'
    clear e1 e2 hb h2 h2'
    go_enter Try.func26, Try.ntmps26
    go_wp2_with fail
    refine (contbad_any A n c xs _ HL.out).mono ?_
    rintro e w1 ⟨rfl, hw1⟩
    rw [H2.out]
    go_wp2
    go_ret2
    exact ⟨_, by rw [E2.out]; rfl, by rw [E1.out]; exact OwnB.nil _ _, (by with_reducible (repeat (first | exact Ext.rfl_ _ | assumption | refine Ext.drew ?_ | refine Ext.drewN ?_ _ | refine Ext.alloc ?_ _ | refine Ext.trans ?_ (by assumption))))⟩

set_option maxRecDepth 100000 in
set_option maxHeartbeats 2000000 in
theorem rlist_any (A : Option Addr) (n c : Nat) (xs : List Ent) (w : World) (hl : RdL w A n xs) (hn : n ≤ 65536) (hm : allMay xs = true) :
    Calls Try.prog 40 #[.slice A n c] w fun e w' => ∃ v', e = .returned v' ∧ OwnB w' w.heap.size v' (lisB xs) ∧ Ext w w' := by
  have HL := Lib.hid hl
  have HM := Lib.hid hm
  clear hl hm
  go_enter Try.func40, Try.ntmps40
  go_wp2_with fail
  refine (r1number_any n _ (by omega)).mono ?_
  rintro e w1 ⟨v1, rfl, o1, hw1⟩
  have HO1 := Lib.hid o1
  clear o1
  go_wp2
  go_loopw [3, 4] (fun v i wr => ∃ k : Nat, i = .int .i64 k ∧ k ≤ n ∧ Hid (OwnB wr w.heap.size v (numB n ++ ((xs.take k).map lstE).flatten)) ∧ Ext w wr) (fun _ i _ => n - (intOf i).toNat)
  case atStart => exact ⟨0, rfl, Nat.zero_le _, Lib.hid (by simpa using HO1.out), hw1⟩
  case round =>
    obtain ⟨k, rfl, hk, ho, hE⟩ := hrel
    by_cases c1 : (k : Int) < (n : Int)
    · obtain ⟨b, o, A2, n2, c2, B2, m2, d2, x, rfl, hx, ⟨q0, q1, q2, q3⟩, hr⟩ := HL.out.at_ k (by omega)
      have hke : k < xs.length := by rw [HL.out.1]; omega
      have hxe : xs[k] = x := by rw [List.getElem?_eq_getElem hke] at hx; exact Option.some.inj hx
      have hmx : mayE x = true := List.all_eq_true.1 HM.out x (hxe ▸ List.getElem_mem hke)
      have g0 := hE.keeps _ _ _ q0
      have g1 := hE.keeps _ _ _ q1
      have g2 := hE.keeps _ _ _ q2
      have g3 := hE.keeps _ _ _ q3
      have HR := Lib.hid (hr.ext hE)
      have HXE := Lib.hid hxe
      have HMX := Lib.hid hmx
      have hsz : (numB n ++ ((xs.take k).map lstE).flatten).length + (lstE x).length ≤ B47 := by
        rw [List.length_append]
        have h1 := flat_len (xs.take k)
        have h2 := numB_length n
        have h3 := lstE_len x
        have h4 : (xs.take k).length ≤ 65536 := by rw [List.length_take]; omega
        have : 65640 * (xs.take k).length ≤ 65640 * 65536 := Nat.mul_le_mul_left _ h4
        unfold B47
        omega
      have HSZ := Lib.hid hsz
      have hlst : bytB (entB x) = lstE x := by unfold lstE; rw [wrE_yes hmx]
      have HLST := Lib.hid hlst
      have hel : (entB x).length ≤ B40 := by have := wrE_len x; rw [wrE_yes hmx] at this; unfold B40; omega
      have HEL := Lib.hid hel
      clear q0 q1 q2 q3 hr hx hxe hmx hsz hlst hel
      go_wp2_with fail
      refine (rentB_any _ x _ HR.out HMX.out).mono ?_
      rintro e w3 ⟨v3, rfl, o3, hw3⟩
      obtain ⟨A3, n3, c3, rfl, l3, r3, i3⟩ := o3.formN
      have hn3 : n3 ≤ B40 := by rw [← r3.1]; exact HEL.out
      go_wp2_with fail
      refine (r1bytes_any A3 n3 c3 (entB x) _ r3 hn3).mono ?_
      rintro e w4 ⟨v4, rfl, o4, hw4⟩
      rw [HLST.out] at o4
      obtain ⟨A4, n4, c4, rfl, l4, r4, i4⟩ := o4.formN
      have HR4 := Lib.hid r4
      have hx4 : Ext wr w4 := hw3.trans hw4
      have HOB := Lib.hid (ho.out.ext hx4)
      have hE4 : Ext w w4 := hE.trans hx4
      clear o3 r3 i3 o4 r4 i4 ho hw3 hw4 hx4
      go_wp2_with (at_builtin; refine wp_app rfl _ _ rfl w.heap.size _ _ rfl HOB.out A4 n4 c4 (lstE x) rfl HR4.out HSZ.out hE4.size ?_; intro v5 w5 o5 g5; have x5 : Ext w w5 := Ext.growBy hE4 g5 HOB.out (Nat.le_refl _); clear g5)
      go_roundw
      case rel =>
        refine ⟨k + 1, by go_num, by omega, Lib.hid ?_, x5⟩
        rw [List.take_succ_eq_append_getElem hke, HXE.out, List.map_append, List.flatten_append, ← List.append_assoc]
        simpa using o5
      case measure => simp [intOf]; omega
    · have e0 : xs.take k = xs := List.take_of_length_le (by rw [HL.out.1]; omega)
      have ho2 := ho.out
      rw [e0] at ho2
      have HO2 := Lib.hid ho2
      clear ho2 ho e0
      go_wp2
      go_ret
      refine ⟨_, rfl, ?_, hE⟩
      unfold lisB
      rw [HL.out.1]
      exact HO2.out

end Go.Proofs.Ythdahmicjlplcaa
