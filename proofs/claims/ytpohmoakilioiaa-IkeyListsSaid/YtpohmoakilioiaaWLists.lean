/- The walk of IkeyLists. Conditions: the list and the slice read. -/
import Derived.Test.YtpohmoakilioiaaListS
import Derived.Test.YtpohmoakilioiaaListW
import Derived.Test.YtpohmoakilioiaaRefC
import Derived.Test.YtpohmoakilioiaaKnown
namespace Go.Proofs.Ytpohmoakilioiaa
set_option linter.unusedSimpArgs false
set_option linter.unusedVariables false
open Go.RowKit

theorem wrL_yes {xs : List Ent} (h : xs.length ≤ 65536) (hm : allMay xs = true) : wrL xs = lisB xs ∧ wrLN xs = 0 := by
  unfold wrL wrLN; simp [h, hm]
theorem wrL_no {xs : List Ent} (h : (decide (xs.length ≤ 65536) && allMay xs) = false) : wrL xs = [] ∧ wrLN xs = 2 := by
  unfold wrL wrLN
  have : ¬ (xs.length ≤ 65536 ∧ allMay xs = true) := fun ⟨h1, h2⟩ => by simp [h1, h2] at h
  simp [this]
theorem allMay_take_no {xs : List Ent} {k : Nat} (h : allMay (xs.take k) = false) : allMay xs = false := by
  unfold allMay at *
  rw [List.all_eq_false] at *
  obtain ⟨x, hx, h⟩ := h
  exact ⟨x, List.mem_of_mem_take hx, h⟩

set_option maxRecDepth 100000 in
set_option maxHeartbeats 4000000 in
theorem lists_walk (A : Option Addr) (n c : Nat) (B : Option Addr) (m d : Nat) (xs : List Ent) (x : Bs) (w : World) (hl : RdL w A n xs) (hnc : n ≤ c) (hx : Rd w B m x) (hmd : m ≤ d) (hm : m ≤ B47) :
    Calls Try.prog 11 #[.slice A n c, .slice B m d] w fun e w' => e = .returned (.bool true) ∧ Ext w w' := by
  have HL := Lib.hid hl
  have HX := Lib.hid hx
  have hn := hl.2.1
  have hxl := hl.1
  unfold B41 at hn
  unfold B47 at hm
  clear hl hx
  by_cases hmu : 100000 < wt xs
  · have hd : decide (100000 < wt xs) = true := decide_eq_true hmu
    have HD := Lib.hid hd
    clear hd hmu
    go_enter Try.func11, Try.ntmps11
    go_wp2_with fail
    refine (rmuch_any A n c 100000 xs _ HL.out (by decide)).mono ?_
    rintro e w1 ⟨rfl, hw1⟩
    rw [HD.out]
    go_wp2_with fail
    refine (known_any _).mono ?_
    rintro e w2 ⟨rfl, hw2⟩
    go_wp2
    go_ret
    exact ⟨rfl, (by with_reducible (repeat (first | exact Ext.rfl_ _ | assumption | refine Ext.drew ?_ | refine Ext.drewN ?_ _ | refine Ext.alloc ?_ _ | refine Ext.trans ?_ (by assumption))))⟩
  have hd : decide (100000 < wt xs) = false := decide_eq_false hmu
  have HD := Lib.hid hd
  clear hd hmu
  by_cases h3 : (100000 : Int) < (m : Int)
  · go_enter Try.func11, Try.ntmps11
    go_wp2_with fail
    refine (rmuch_any A n c 100000 xs _ HL.out (by decide)).mono ?_
    rintro e w1 ⟨rfl, hw1⟩
    rw [HD.out]
    go_wp2_with fail
    refine (known_any _).mono ?_
    rintro e w2 ⟨rfl, hw2⟩
    go_wp2
    go_ret
    exact ⟨rfl, (by with_reducible (repeat (first | exact Ext.rfl_ _ | assumption | refine Ext.drew ?_ | refine Ext.drewN ?_ _ | refine Ext.alloc ?_ _ | refine Ext.trans ?_ (by assumption))))⟩
  go_enter Try.func11, Try.ntmps11
  go_wp2_with fail
  refine (rmuch_any A n c 100000 xs _ HL.out (by decide)).mono ?_
  rintro e w1 ⟨rfl, hw1⟩
  rw [HD.out]
  go_wp2_with fail
  refine (list_any A n c xs _ (HL.out.ext (by with_reducible (repeat (first | exact Ext.rfl_ _ | assumption | refine Ext.drew ?_ | refine Ext.drewN ?_ _ | refine Ext.alloc ?_ _ | refine Ext.trans ?_ (by assumption)))))).mono ?_
  rintro e w2 ⟨v2, rfl, o2, hw2⟩
  have HO2 := Lib.hid o2
  obtain ⟨A2, n2, c2, rfl, _, r2, _⟩ := o2.formN
  have R2 := Lib.hid r2
  have x2 : Ext w w2 := hw1.trans hw2
  clear o2 r2 hw1 hw2
  go_wp2_with fail
  refine (lists_any B m d x _ (HX.out.ext (by with_reducible (repeat (first | exact Ext.rfl_ _ | assumption | refine Ext.drew ?_ | refine Ext.drewN ?_ _ | refine Ext.alloc ?_ _ | refine Ext.trans ?_ (by assumption))))) (by unfold B40; omega)).mono ?_
  rintro e w3 ⟨v3, b3, rfl, _, o3, hw3⟩
  obtain ⟨A3, n3, c3, rfl, _, r3, _⟩ := o3.formN (Nat.le_trans (rdL_len x) (by unfold B41; omega))
  have R3 := Lib.hid r3
  have x3 : Ext w w3 := x2.trans hw3
  have y3 : Ext w2 w3 := hw3
  clear o3 r3 hw3 x2
  go_wp2_with fail
  refine (rlists_any B m d x _ (HX.out.ext (by with_reducible (repeat (first | exact Ext.rfl_ _ | assumption | refine Ext.drew ?_ | refine Ext.drewN ?_ _ | refine Ext.alloc ?_ _ | refine Ext.trans ?_ (by assumption))))) hmd (by unfold B40; omega)).mono ?_
  rintro e w4 ⟨v4, b4, rfl, _, o4, hw4⟩
  obtain ⟨A4, n4, c4, rfl, _, r4, _⟩ := o4.formN (Nat.le_trans (rdL_len x) (by unfold B41; omega))
  have R4 := Lib.hid r4
  have X4 := Lib.hid (x3.trans hw4)
  have Y4 := Lib.hid hw4
  have Z4 := Lib.hid (y3.trans hw4)
  clear o4 r4 hw4 x3 y3
  go_wp2
  go_loopw [11, 12] (fun f i wr => ∃ k : Nat, f = .bool (decide (xs.length ≤ 65536) && allMay (xs.take k)) ∧ i = .int .i64 k ∧ k ≤ n ∧ Ext w4 wr) (fun _ i _ => n - (intOf i).toNat)
  case atStart =>
    refine ⟨0, ?_, rfl, Nat.zero_le _, Ext.rfl_ _⟩
    rw [hxl]; simp [allMay]; first | done | omega
  case round =>
    obtain ⟨k, hb, rfl, hk, hE⟩ := hrel
    have hbs := hb
    have HE := Lib.hid hE
    cases hq : (decide (xs.length ≤ 65536) && allMay (xs.take k)) with
    | true =>
      rw [hq] at hb
      subst hb
      by_cases c1 : (k : Int) < (n : Int)
      · obtain ⟨b, o, A1, n1, c1', A1', n1', c1'', x1, rfl, hx1, ⟨q0, q1, q2, q3⟩, hr⟩ := HL.out.at_ k (by omega)
        have hke : k < xs.length := by rw [HL.out.1]; omega
        have hxe : xs[k] = x1 := by rw [List.getElem?_eq_getElem hke] at hx1; exact Option.some.inj hx1
        have g0 := (X4.out.trans hE).keeps _ _ _ q0
        have g1 := (X4.out.trans hE).keeps _ _ _ q1
        have g2 := (X4.out.trans hE).keeps _ _ _ q2
        have g3 := (X4.out.trans hE).keeps _ _ _ q3
        have HR := Lib.hid (hr.ext (X4.out.trans hE))
        have HXE := Lib.hid hxe
        have HQ := Lib.hid hq
        clear q0 q1 q2 q3 hr hx1 hxe hq hbs
        go_wp2_with fail
        refine (rmay_any _ x1 _ HR.out).mono ?_
        rintro e w5 ⟨rfl, hw5⟩
        go_wp2
        go_roundw
        case rel =>
          refine ⟨k + 1, ?_, by go_num, by omega, (by with_reducible (repeat (first | exact Ext.rfl_ _ | assumption | refine Ext.drew ?_ | refine Ext.drewN ?_ _ | refine Ext.alloc ?_ _ | refine Ext.trans ?_ (by assumption))))⟩
          have := HQ.out
          rw [Bool.and_eq_true] at this
          have e1 : allMay (xs.take (k + 1)) = mayE x1 := by
            rw [List.take_succ_eq_append_getElem hke, HXE.out]
            unfold allMay at *
            rw [List.all_append, this.2]; simp
          rw [e1, this.1]; simp
        case measure => simp [intOf]; omega
      · have e0 : xs.take k = xs := List.take_of_length_le (by rw [HL.out.1]; omega)
        rw [e0, Bool.and_eq_true] at hq
        have hwl := wrL_yes (of_decide_eq_true hq.1) hq.2
        have HWL := Lib.hid hwl.1
        have HMA := Lib.hid hq.2
        have h65 := of_decide_eq_true hq.1
        have se := str_eq (lisB xs)
        have R2' : Hid (Rd w2 A2 n2 (lisB xs)) := Lib.hid (by rw [← hwl.1]; exact R2.out)
        have hrn : (rdLN x != rdLN x) = false := by simp
        clear hq hbs
        go_wp2_with fail
        refine (rsameL_any A3 n3 c3 A4 n4 c4 (rdL x) (rdL x) _ (R3.out.ext (Y4.out.trans (by with_reducible (repeat (first | exact Ext.rfl_ _ | assumption | refine Ext.drew ?_ | refine Ext.drewN ?_ _ | refine Ext.alloc ?_ _ | refine Ext.trans ?_ (by assumption)))))) (R4.out.ext (by with_reducible (repeat (first | exact Ext.rfl_ _ | assumption | refine Ext.drew ?_ | refine Ext.drewN ?_ _ | refine Ext.alloc ?_ _ | refine Ext.trans ?_ (by assumption)))))).mono ?_
        rintro e w5 ⟨rfl, hw5⟩
        rw [decide_eq_true rfl]
        go_wp2_with fail
        refine (num_any _ _).mono ?_
        rintro e w6 ⟨rfl, rfl⟩
        go_wp2_with fail
        refine wp_region_held_drew (S := (fun _ => True)) (by kernel_rfl) (by (try dsimp only); (try exact trivial)) (fun hHeld => ?_)
        refine wpAnyH_take (i := 0) (oi := ({ dst := some 76, op := Go.Op.move (Go.Operand.tmp 5), type := 22, pos := "law.go:141", after := #[], guard := none } : Go.Oper)) (v := ?v1) rfl (by kernel_rfl) (by kernel_rfl) (by kernel_rfl) (fun _ _ _ h => h) (Or.inl ⟨by rfl, ?hy1⟩) (by assumption) ?rest1
        case hy1 => (intro w hSw; (try dsimp only at hSw); go_simp; (try with_reducible rfl))
        (try simp only [Act.put, List.getElem_toArray, List.getElem_cons_zero, List.getElem_cons_succ, List.setIfInBounds_toArray, List.set_cons_zero, List.set_cons_succ])
        refine wpAnyH_take (i := 2) (oi := ({ dst := some 78, op := Go.Op.move (Go.Operand.tmp 0), type := 42, pos := "law.go:141", after := #[], guard := none } : Go.Oper)) (v := ?v2) rfl (by kernel_rfl) (by kernel_rfl) (by kernel_rfl) (fun _ _ _ h => h) (Or.inl ⟨by rfl, ?hy2⟩) (by assumption) ?rest2
        case hy2 => (intro w hSw; (try dsimp only at hSw); go_simp; (try with_reducible rfl))
        (try simp only [Act.put, List.getElem_toArray, List.getElem_cons_zero, List.getElem_cons_succ, List.setIfInBounds_toArray, List.set_cons_zero, List.set_cons_succ])
        refine wpAnyH_ready (rs := [1, 3]) (by kernel_rfl) (by simp) ?_
        refine AllReadyH.cons (o := ({ dst := some 77, op := Go.Op.convert 22 9 (Go.Operand.tmp 76), type := 9, pos := "law.go:141", after := #[{ on := 0, ground := Go.Ground.data }], guard := none } : Go.Oper)) rfl (fun K hK => ?one3) ?more3
        case' one3 =>
          go_simp; rw [Rd.str (P := Try.prog) (x := lisB xs) (?_ : Rd _ A2 n2 (lisB xs)) c2 22 5 9 Try.underlying22 Try.underlying5 Try.underlying9]; rotate_left; exact (R2'.out.ext (Z4.out.trans (by with_reducible (repeat (first | exact Ext.rfl_ _ | assumption | refine Ext.drew ?_ | refine Ext.drewN ?_ _ | refine Ext.alloc ?_ _ | refine Ext.trans ?_ (by assumption)))))); simp only [Result.andThen]; go_simp
          refine hK.out _ _ (by (try dsimp only); (try exact trivial)) (fun hHeld => ?_)
          clear hK K
          (try simp only [Act.put, List.getElem_toArray, List.getElem_cons_zero, List.getElem_cons_succ, List.setIfInBounds_toArray, List.set_cons_zero, List.set_cons_succ])
          refine wpAnyH_ready (rs := [3]) (by kernel_rfl) (by simp) ?_
          refine AllReadyH.cons (o := ({ dst := some 79, op := Go.Op.call { callee := Go.Callee.value (Go.Operand.func 42), args := #[Go.Operand.tmp 78], argTypes := #[42] }, type := 22, pos := "law.go:141", after := #[{ on := 2, ground := Go.Ground.data }], guard := none } : Go.Oper)) rfl (fun K hK => ?_) AllReadyH.nil
          go_simp
          (first | (go_at_call 19; refine (num_any _ _).mono ?_; rintro e w6 ⟨rfl, rfl⟩) | (go_at_call 42; refine (rlist_any A n c xs _ (HL.out.ext (X4.out.trans (by with_reducible (repeat (first | exact Ext.rfl_ _ | assumption | refine Ext.drew ?_ | refine Ext.drewN ?_ _ | refine Ext.alloc ?_ _ | refine Ext.trans ?_ (by assumption)))))) (by omega) HMA.out).mono ?_; rintro e w7 ⟨v5, rfl, o5, hw7⟩; obtain ⟨A5, n5, c5, rfl, _, r5, _⟩ := o5.formN) | (go_at_call 15; refine (known_any _).mono ?_; rintro e w9 ⟨rfl, hw9⟩))
          (try (go_wp2_with fail))
          refine hK.out _ _ (by (try dsimp only); (try exact trivial)) (fun hHeld => ?_)
          clear hK K
          (try simp only [Act.put, List.getElem_toArray, List.getElem_cons_zero, List.getElem_cons_succ, List.setIfInBounds_toArray, List.set_cons_zero, List.set_cons_succ])
          refine wpAnyH_ready (rs := [4]) (by kernel_rfl) (by simp) ?_
          refine AllReadyH.cons (o := ({ dst := some 80, op := Go.Op.convert 22 9 (Go.Operand.tmp 79), type := 9, pos := "law.go:141", after := #[{ on := 3, ground := Go.Ground.data }], guard := none } : Go.Oper)) rfl (fun K hK => ?_) AllReadyH.nil
          go_simp; rw [Rd.str (P := Try.prog) (x := lisB xs) (?_ : Rd _ A5 n5 (lisB xs)) c5 22 5 9 Try.underlying22 Try.underlying5 Try.underlying9]; rotate_left; exact (r5.ext (by with_reducible (repeat (first | exact Ext.rfl_ _ | assumption | refine Ext.drew ?_ | refine Ext.drewN ?_ _ | refine Ext.alloc ?_ _ | refine Ext.trans ?_ (by assumption))))); simp only [Result.andThen]; go_simp
          refine hK.out _ _ (by (try dsimp only); (try exact trivial)) (fun hHeld => ?_)
          clear hK K
          (try simp only [Act.put, List.getElem_toArray, List.getElem_cons_zero, List.getElem_cons_succ, List.setIfInBounds_toArray, List.set_cons_zero, List.set_cons_succ])
          refine wpAnyH_take (i := 5) (oi := ({ dst := some 81, op := Go.Op.binOp Go.BinOp.eql 9 (Go.Operand.tmp 77) (Go.Operand.tmp 80) 9, type := 4, pos := "law.go:141", after := #[{ on := 1, ground := Go.Ground.data }, { on := 4, ground := Go.Ground.data }], guard := none } : Go.Oper)) (v := ?v4) rfl (by kernel_rfl) (by kernel_rfl) (by kernel_rfl) (fun _ _ _ h => h) (Or.inl ⟨by rfl, ?hy4⟩) (by assumption) ?rest4
          case hy4 => (intro w hSw; (try dsimp only at hSw); go_simp; (try with_reducible rfl))
          (try simp only [Act.put, List.getElem_toArray, List.getElem_cons_zero, List.getElem_cons_succ, List.setIfInBounds_toArray, List.set_cons_zero, List.set_cons_succ])
          refine wpAnyH_take (i := 6) (oi := ({ dst := some 82, op := Go.Op.move (Go.Operand.tmp 81), type := 4, pos := "law.go:141", after := #[{ on := 5, ground := Go.Ground.data }, { on := 3, ground := Go.Ground.chain }], guard := none } : Go.Oper)) (v := ?v5) rfl (by kernel_rfl) (by kernel_rfl) (by kernel_rfl) (fun _ _ _ h => h) (Or.inl ⟨by rfl, ?hy5⟩) (by assumption) ?rest5
          case hy5 => (intro w hSw; (try dsimp only at hSw); go_simp; (try with_reducible rfl))
          (try simp only [Act.put, List.getElem_toArray, List.getElem_cons_zero, List.getElem_cons_succ, List.setIfInBounds_toArray, List.set_cons_zero, List.set_cons_succ])
          refine wpAnyH_take (i := 7) (oi := ({ dst := some 83, op := Go.Op.move (Go.Operand.tmp 6), type := 31, pos := "law.go:141", after := #[{ on := 6, ground := Go.Ground.guard }], guard := some (6, true) } : Go.Oper)) (v := ?v6) rfl (by kernel_rfl) (by kernel_rfl) (by kernel_rfl) (fun _ _ _ h => h) (Or.inl ⟨by rfl, ?hy6⟩) (by assumption) ?rest6
          case hy6 => (intro w hSw; (try dsimp only at hSw); go_simp; (try with_reducible rfl))
          (try simp only [Act.put, List.getElem_toArray, List.getElem_cons_zero, List.getElem_cons_succ, List.setIfInBounds_toArray, List.set_cons_zero, List.set_cons_succ])
          refine wpAnyH_ready (rs := [8]) (by kernel_rfl) (by simp) ?_
          refine AllReadyH.cons (o := ({ dst := some 84, op := Go.Op.call { callee := Go.Callee.value (Go.Operand.func 19), args := #[Go.Operand.tmp 83], argTypes := #[31] }, type := 3, pos := "law.go:141", after := #[{ on := 7, ground := Go.Ground.data }, { on := 6, ground := Go.Ground.chain }, { on := 6, ground := Go.Ground.guard }], guard := some (6, true) } : Go.Oper)) rfl (fun K hK => ?_) AllReadyH.nil
          go_simp
          (first | (go_at_call 19; refine (num_any _ _).mono ?_; rintro e w6 ⟨rfl, rfl⟩) | (go_at_call 42; refine (rlist_any A n c xs _ (HL.out.ext (X4.out.trans (by with_reducible (repeat (first | exact Ext.rfl_ _ | assumption | refine Ext.drew ?_ | refine Ext.drewN ?_ _ | refine Ext.alloc ?_ _ | refine Ext.trans ?_ (by assumption)))))) (by omega) HMA.out).mono ?_; rintro e w7 ⟨v5, rfl, o5, hw7⟩; obtain ⟨A5, n5, c5, rfl, _, r5, _⟩ := o5.formN) | (go_at_call 15; refine (known_any _).mono ?_; rintro e w9 ⟨rfl, hw9⟩))
          (try (go_wp2_with fail))
          refine hK.out _ _ (by (try dsimp only); (try exact trivial)) (fun hHeld => ?_)
          clear hK K
          (try simp only [Act.put, List.getElem_toArray, List.getElem_cons_zero, List.getElem_cons_succ, List.setIfInBounds_toArray, List.set_cons_zero, List.set_cons_succ])
          refine wpAnyH_take (i := 9) (oi := ({ dst := some 85, op := Go.Op.binOp Go.BinOp.eql 3 (Go.Operand.tmp 84) (Go.Operand.const (Go.Value.int Go.IntKind.i64 0)) 3, type := 4, pos := "law.go:141", after := #[{ on := 8, ground := Go.Ground.data }, { on := 6, ground := Go.Ground.guard }], guard := some (6, true) } : Go.Oper)) (v := ?v7) rfl (by kernel_rfl) (by kernel_rfl) (by kernel_rfl) (fun _ _ _ h => h) (Or.inl ⟨by rfl, ?hy7⟩) (by assumption) ?rest7
          case hy7 => (intro w hSw; (try dsimp only at hSw); go_simp; (try with_reducible rfl))
          (try simp only [Act.put, List.getElem_toArray, List.getElem_cons_zero, List.getElem_cons_succ, List.setIfInBounds_toArray, List.set_cons_zero, List.set_cons_succ])
          refine wpAnyH_take (i := 10) (oi := ({ dst := some 86, op := Go.Op.pick (Go.Operand.tmp 82) (Go.Operand.tmp 85) (Go.Operand.const (Go.Value.bool false)), type := 4, pos := "law.go:141", after := #[{ on := 6, ground := Go.Ground.data }, { on := 9, ground := Go.Ground.data }], guard := none } : Go.Oper)) (v := ?v8) rfl (by kernel_rfl) (by kernel_rfl) (by kernel_rfl) (fun _ _ _ h => h) (Or.inl ⟨by rfl, ?hy8⟩) (by assumption) ?rest8
          case hy8 => (intro w hSw; (try dsimp only at hSw); go_simp; (try with_reducible rfl))
          (try simp only [Act.put, List.getElem_toArray, List.getElem_cons_zero, List.getElem_cons_succ, List.setIfInBounds_toArray, List.set_cons_zero, List.set_cons_succ])
          refine wpAnyH_take (i := 11) (oi := ({ dst := some 87, op := Go.Op.move (Go.Operand.tmp 86), type := 4, pos := "law.go:141", after := #[{ on := 10, ground := Go.Ground.data }, { on := 8, ground := Go.Ground.chain }], guard := none } : Go.Oper)) (v := ?v9) rfl (by kernel_rfl) (by kernel_rfl) (by kernel_rfl) (fun _ _ _ h => h) (Or.inl ⟨by rfl, ?hy9⟩) (by assumption) ?rest9
          case hy9 => (intro w hSw; (try dsimp only at hSw); go_simp; (try with_reducible rfl))
          (try simp only [Act.put, List.getElem_toArray, List.getElem_cons_zero, List.getElem_cons_succ, List.setIfInBounds_toArray, List.set_cons_zero, List.set_cons_succ])
          refine wpAnyH_ready (rs := [12]) (by kernel_rfl) (by simp) ?_
          refine AllReadyH.cons (o := ({ dst := some 88, op := Go.Op.call { callee := Go.Callee.value (Go.Operand.func 15), args := #[], argTypes := #[] }, type := 4, pos := "law.go:141", after := #[{ on := 11, ground := Go.Ground.chain }, { on := 11, ground := Go.Ground.guard }], guard := some (11, true) } : Go.Oper)) rfl (fun K hK => ?_) AllReadyH.nil
          go_simp
          (first | (go_at_call 19; refine (num_any _ _).mono ?_; rintro e w6 ⟨rfl, rfl⟩) | (go_at_call 42; refine (rlist_any A n c xs _ (HL.out.ext (X4.out.trans (by with_reducible (repeat (first | exact Ext.rfl_ _ | assumption | refine Ext.drew ?_ | refine Ext.drewN ?_ _ | refine Ext.alloc ?_ _ | refine Ext.trans ?_ (by assumption)))))) (by omega) HMA.out).mono ?_; rintro e w7 ⟨v5, rfl, o5, hw7⟩; obtain ⟨A5, n5, c5, rfl, _, r5, _⟩ := o5.formN) | (go_at_call 15; refine (known_any _).mono ?_; rintro e w9 ⟨rfl, hw9⟩))
          (try (go_wp2_with fail))
          refine hK.out _ _ (by (try dsimp only); (try exact trivial)) (fun hHeld => ?_)
          clear hK K
          (try simp only [Act.put, List.getElem_toArray, List.getElem_cons_zero, List.getElem_cons_succ, List.setIfInBounds_toArray, List.set_cons_zero, List.set_cons_succ])
          refine wpAnyH_take (i := 13) (oi := ({ dst := some 89, op := Go.Op.pick (Go.Operand.tmp 87) (Go.Operand.tmp 88) (Go.Operand.const (Go.Value.bool false)), type := 4, pos := "law.go:141", after := #[{ on := 11, ground := Go.Ground.data }, { on := 12, ground := Go.Ground.data }], guard := none } : Go.Oper)) (v := ?v10) rfl (by kernel_rfl) (by kernel_rfl) (by kernel_rfl) (fun _ _ _ h => h) (Or.inl ⟨by rfl, ?hy10⟩) (by assumption) ?rest10
          case hy10 => (intro w hSw; (try dsimp only at hSw); go_simp; (try with_reducible rfl))
          (try simp only [Act.put, List.getElem_toArray, List.getElem_cons_zero, List.getElem_cons_succ, List.setIfInBounds_toArray, List.set_cons_zero, List.set_cons_succ])
          refine wpAnyH_take (i := 14) (oi := ({ dst := some 4, op := Go.Op.assign (Go.Operand.tmp 89), type := 4, pos := "law.go:141", after := #[{ on := 13, ground := Go.Ground.data }, { on := 12, ground := Go.Ground.chain }, { on := 0, ground := Go.Ground.phase }, { on := 1, ground := Go.Ground.phase }, { on := 2, ground := Go.Ground.phase }, { on := 3, ground := Go.Ground.phase }, { on := 4, ground := Go.Ground.phase }, { on := 5, ground := Go.Ground.phase }, { on := 6, ground := Go.Ground.phase }, { on := 7, ground := Go.Ground.phase }, { on := 8, ground := Go.Ground.phase }, { on := 9, ground := Go.Ground.phase }, { on := 10, ground := Go.Ground.phase }, { on := 11, ground := Go.Ground.phase }, { on := 12, ground := Go.Ground.phase }, { on := 13, ground := Go.Ground.phase }], guard := none } : Go.Oper)) (v := ?v11) rfl (by kernel_rfl) (by kernel_rfl) (by kernel_rfl) (fun _ _ _ h => h) (Or.inl ⟨by rfl, ?hy11⟩) (by assumption) ?rest11
          case hy11 => (intro w hSw; (try dsimp only at hSw); go_simp; (try with_reducible rfl))
          (try simp only [Act.put, List.getElem_toArray, List.getElem_cons_zero, List.getElem_cons_succ, List.setIfInBounds_toArray, List.set_cons_zero, List.set_cons_succ])
          refine wpAnyH_done (by kernel_rfl) ?_ _
        case' more3 =>
          refine AllReadyH.cons (o := ({ dst := some 79, op := Go.Op.call { callee := Go.Callee.value (Go.Operand.func 42), args := #[Go.Operand.tmp 78], argTypes := #[42] }, type := 22, pos := "law.go:141", after := #[{ on := 2, ground := Go.Ground.data }], guard := none } : Go.Oper)) rfl (fun K hK => ?_) AllReadyH.nil
          go_simp
          (first | (go_at_call 19; refine (num_any _ _).mono ?_; rintro e w6 ⟨rfl, rfl⟩) | (go_at_call 42; refine (rlist_any A n c xs _ (HL.out.ext (X4.out.trans (by with_reducible (repeat (first | exact Ext.rfl_ _ | assumption | refine Ext.drew ?_ | refine Ext.drewN ?_ _ | refine Ext.alloc ?_ _ | refine Ext.trans ?_ (by assumption)))))) (by omega) HMA.out).mono ?_; rintro e w7 ⟨v5, rfl, o5, hw7⟩; obtain ⟨A5, n5, c5, rfl, _, r5, _⟩ := o5.formN) | (go_at_call 15; refine (known_any _).mono ?_; rintro e w9 ⟨rfl, hw9⟩))
          (try (go_wp2_with fail))
          refine hK.out _ _ (by (try dsimp only); (try exact trivial)) (fun hHeld => ?_)
          clear hK K
          (try simp only [Act.put, List.getElem_toArray, List.getElem_cons_zero, List.getElem_cons_succ, List.setIfInBounds_toArray, List.set_cons_zero, List.set_cons_succ])
          refine wpAnyH_ready (rs := [1, 4]) (by kernel_rfl) (by simp) ?_
          refine AllReadyH.cons (o := ({ dst := some 77, op := Go.Op.convert 22 9 (Go.Operand.tmp 76), type := 9, pos := "law.go:141", after := #[{ on := 0, ground := Go.Ground.data }], guard := none } : Go.Oper)) rfl (fun K hK => ?one12) ?more12
          case' one12 =>
            go_simp; rw [Rd.str (P := Try.prog) (x := lisB xs) (?_ : Rd _ A2 n2 (lisB xs)) c2 22 5 9 Try.underlying22 Try.underlying5 Try.underlying9]; rotate_left; exact (R2'.out.ext (Z4.out.trans (by with_reducible (repeat (first | exact Ext.rfl_ _ | assumption | refine Ext.drew ?_ | refine Ext.drewN ?_ _ | refine Ext.alloc ?_ _ | refine Ext.trans ?_ (by assumption)))))); simp only [Result.andThen]; go_simp
            refine hK.out _ _ (by (try dsimp only); (try exact trivial)) (fun hHeld => ?_)
            clear hK K
            (try simp only [Act.put, List.getElem_toArray, List.getElem_cons_zero, List.getElem_cons_succ, List.setIfInBounds_toArray, List.set_cons_zero, List.set_cons_succ])
            refine wpAnyH_ready (rs := [4]) (by kernel_rfl) (by simp) ?_
            refine AllReadyH.cons (o := ({ dst := some 80, op := Go.Op.convert 22 9 (Go.Operand.tmp 79), type := 9, pos := "law.go:141", after := #[{ on := 3, ground := Go.Ground.data }], guard := none } : Go.Oper)) rfl (fun K hK => ?_) AllReadyH.nil
            go_simp; rw [Rd.str (P := Try.prog) (x := lisB xs) (?_ : Rd _ A5 n5 (lisB xs)) c5 22 5 9 Try.underlying22 Try.underlying5 Try.underlying9]; rotate_left; exact (r5.ext (by with_reducible (repeat (first | exact Ext.rfl_ _ | assumption | refine Ext.drew ?_ | refine Ext.drewN ?_ _ | refine Ext.alloc ?_ _ | refine Ext.trans ?_ (by assumption))))); simp only [Result.andThen]; go_simp
            refine hK.out _ _ (by (try dsimp only); (try exact trivial)) (fun hHeld => ?_)
            clear hK K
            (try simp only [Act.put, List.getElem_toArray, List.getElem_cons_zero, List.getElem_cons_succ, List.setIfInBounds_toArray, List.set_cons_zero, List.set_cons_succ])
            refine wpAnyH_take (i := 5) (oi := ({ dst := some 81, op := Go.Op.binOp Go.BinOp.eql 9 (Go.Operand.tmp 77) (Go.Operand.tmp 80) 9, type := 4, pos := "law.go:141", after := #[{ on := 1, ground := Go.Ground.data }, { on := 4, ground := Go.Ground.data }], guard := none } : Go.Oper)) (v := ?v13) rfl (by kernel_rfl) (by kernel_rfl) (by kernel_rfl) (fun _ _ _ h => h) (Or.inl ⟨by rfl, ?hy13⟩) (by assumption) ?rest13
            case hy13 => (intro w hSw; (try dsimp only at hSw); go_simp; (try with_reducible rfl))
            (try simp only [Act.put, List.getElem_toArray, List.getElem_cons_zero, List.getElem_cons_succ, List.setIfInBounds_toArray, List.set_cons_zero, List.set_cons_succ])
            refine wpAnyH_take (i := 6) (oi := ({ dst := some 82, op := Go.Op.move (Go.Operand.tmp 81), type := 4, pos := "law.go:141", after := #[{ on := 5, ground := Go.Ground.data }, { on := 3, ground := Go.Ground.chain }], guard := none } : Go.Oper)) (v := ?v14) rfl (by kernel_rfl) (by kernel_rfl) (by kernel_rfl) (fun _ _ _ h => h) (Or.inl ⟨by rfl, ?hy14⟩) (by assumption) ?rest14
            case hy14 => (intro w hSw; (try dsimp only at hSw); go_simp; (try with_reducible rfl))
            (try simp only [Act.put, List.getElem_toArray, List.getElem_cons_zero, List.getElem_cons_succ, List.setIfInBounds_toArray, List.set_cons_zero, List.set_cons_succ])
            refine wpAnyH_take (i := 7) (oi := ({ dst := some 83, op := Go.Op.move (Go.Operand.tmp 6), type := 31, pos := "law.go:141", after := #[{ on := 6, ground := Go.Ground.guard }], guard := some (6, true) } : Go.Oper)) (v := ?v15) rfl (by kernel_rfl) (by kernel_rfl) (by kernel_rfl) (fun _ _ _ h => h) (Or.inl ⟨by rfl, ?hy15⟩) (by assumption) ?rest15
            case hy15 => (intro w hSw; (try dsimp only at hSw); go_simp; (try with_reducible rfl))
            (try simp only [Act.put, List.getElem_toArray, List.getElem_cons_zero, List.getElem_cons_succ, List.setIfInBounds_toArray, List.set_cons_zero, List.set_cons_succ])
            refine wpAnyH_ready (rs := [8]) (by kernel_rfl) (by simp) ?_
            refine AllReadyH.cons (o := ({ dst := some 84, op := Go.Op.call { callee := Go.Callee.value (Go.Operand.func 19), args := #[Go.Operand.tmp 83], argTypes := #[31] }, type := 3, pos := "law.go:141", after := #[{ on := 7, ground := Go.Ground.data }, { on := 6, ground := Go.Ground.chain }, { on := 6, ground := Go.Ground.guard }], guard := some (6, true) } : Go.Oper)) rfl (fun K hK => ?_) AllReadyH.nil
            go_simp
            (first | (go_at_call 19; refine (num_any _ _).mono ?_; rintro e w6 ⟨rfl, rfl⟩) | (go_at_call 42; refine (rlist_any A n c xs _ (HL.out.ext (X4.out.trans (by with_reducible (repeat (first | exact Ext.rfl_ _ | assumption | refine Ext.drew ?_ | refine Ext.drewN ?_ _ | refine Ext.alloc ?_ _ | refine Ext.trans ?_ (by assumption)))))) (by omega) HMA.out).mono ?_; rintro e w7 ⟨v5, rfl, o5, hw7⟩; obtain ⟨A5, n5, c5, rfl, _, r5, _⟩ := o5.formN) | (go_at_call 15; refine (known_any _).mono ?_; rintro e w9 ⟨rfl, hw9⟩))
            (try (go_wp2_with fail))
            refine hK.out _ _ (by (try dsimp only); (try exact trivial)) (fun hHeld => ?_)
            clear hK K
            (try simp only [Act.put, List.getElem_toArray, List.getElem_cons_zero, List.getElem_cons_succ, List.setIfInBounds_toArray, List.set_cons_zero, List.set_cons_succ])
            refine wpAnyH_take (i := 9) (oi := ({ dst := some 85, op := Go.Op.binOp Go.BinOp.eql 3 (Go.Operand.tmp 84) (Go.Operand.const (Go.Value.int Go.IntKind.i64 0)) 3, type := 4, pos := "law.go:141", after := #[{ on := 8, ground := Go.Ground.data }, { on := 6, ground := Go.Ground.guard }], guard := some (6, true) } : Go.Oper)) (v := ?v16) rfl (by kernel_rfl) (by kernel_rfl) (by kernel_rfl) (fun _ _ _ h => h) (Or.inl ⟨by rfl, ?hy16⟩) (by assumption) ?rest16
            case hy16 => (intro w hSw; (try dsimp only at hSw); go_simp; (try with_reducible rfl))
            (try simp only [Act.put, List.getElem_toArray, List.getElem_cons_zero, List.getElem_cons_succ, List.setIfInBounds_toArray, List.set_cons_zero, List.set_cons_succ])
            refine wpAnyH_take (i := 10) (oi := ({ dst := some 86, op := Go.Op.pick (Go.Operand.tmp 82) (Go.Operand.tmp 85) (Go.Operand.const (Go.Value.bool false)), type := 4, pos := "law.go:141", after := #[{ on := 6, ground := Go.Ground.data }, { on := 9, ground := Go.Ground.data }], guard := none } : Go.Oper)) (v := ?v17) rfl (by kernel_rfl) (by kernel_rfl) (by kernel_rfl) (fun _ _ _ h => h) (Or.inl ⟨by rfl, ?hy17⟩) (by assumption) ?rest17
            case hy17 => (intro w hSw; (try dsimp only at hSw); go_simp; (try with_reducible rfl))
            (try simp only [Act.put, List.getElem_toArray, List.getElem_cons_zero, List.getElem_cons_succ, List.setIfInBounds_toArray, List.set_cons_zero, List.set_cons_succ])
            refine wpAnyH_take (i := 11) (oi := ({ dst := some 87, op := Go.Op.move (Go.Operand.tmp 86), type := 4, pos := "law.go:141", after := #[{ on := 10, ground := Go.Ground.data }, { on := 8, ground := Go.Ground.chain }], guard := none } : Go.Oper)) (v := ?v18) rfl (by kernel_rfl) (by kernel_rfl) (by kernel_rfl) (fun _ _ _ h => h) (Or.inl ⟨by rfl, ?hy18⟩) (by assumption) ?rest18
            case hy18 => (intro w hSw; (try dsimp only at hSw); go_simp; (try with_reducible rfl))
            (try simp only [Act.put, List.getElem_toArray, List.getElem_cons_zero, List.getElem_cons_succ, List.setIfInBounds_toArray, List.set_cons_zero, List.set_cons_succ])
            refine wpAnyH_ready (rs := [12]) (by kernel_rfl) (by simp) ?_
            refine AllReadyH.cons (o := ({ dst := some 88, op := Go.Op.call { callee := Go.Callee.value (Go.Operand.func 15), args := #[], argTypes := #[] }, type := 4, pos := "law.go:141", after := #[{ on := 11, ground := Go.Ground.chain }, { on := 11, ground := Go.Ground.guard }], guard := some (11, true) } : Go.Oper)) rfl (fun K hK => ?_) AllReadyH.nil
            go_simp
            (first | (go_at_call 19; refine (num_any _ _).mono ?_; rintro e w6 ⟨rfl, rfl⟩) | (go_at_call 42; refine (rlist_any A n c xs _ (HL.out.ext (X4.out.trans (by with_reducible (repeat (first | exact Ext.rfl_ _ | assumption | refine Ext.drew ?_ | refine Ext.drewN ?_ _ | refine Ext.alloc ?_ _ | refine Ext.trans ?_ (by assumption)))))) (by omega) HMA.out).mono ?_; rintro e w7 ⟨v5, rfl, o5, hw7⟩; obtain ⟨A5, n5, c5, rfl, _, r5, _⟩ := o5.formN) | (go_at_call 15; refine (known_any _).mono ?_; rintro e w9 ⟨rfl, hw9⟩))
            (try (go_wp2_with fail))
            refine hK.out _ _ (by (try dsimp only); (try exact trivial)) (fun hHeld => ?_)
            clear hK K
            (try simp only [Act.put, List.getElem_toArray, List.getElem_cons_zero, List.getElem_cons_succ, List.setIfInBounds_toArray, List.set_cons_zero, List.set_cons_succ])
            refine wpAnyH_take (i := 13) (oi := ({ dst := some 89, op := Go.Op.pick (Go.Operand.tmp 87) (Go.Operand.tmp 88) (Go.Operand.const (Go.Value.bool false)), type := 4, pos := "law.go:141", after := #[{ on := 11, ground := Go.Ground.data }, { on := 12, ground := Go.Ground.data }], guard := none } : Go.Oper)) (v := ?v19) rfl (by kernel_rfl) (by kernel_rfl) (by kernel_rfl) (fun _ _ _ h => h) (Or.inl ⟨by rfl, ?hy19⟩) (by assumption) ?rest19
            case hy19 => (intro w hSw; (try dsimp only at hSw); go_simp; (try with_reducible rfl))
            (try simp only [Act.put, List.getElem_toArray, List.getElem_cons_zero, List.getElem_cons_succ, List.setIfInBounds_toArray, List.set_cons_zero, List.set_cons_succ])
            refine wpAnyH_take (i := 14) (oi := ({ dst := some 4, op := Go.Op.assign (Go.Operand.tmp 89), type := 4, pos := "law.go:141", after := #[{ on := 13, ground := Go.Ground.data }, { on := 12, ground := Go.Ground.chain }, { on := 0, ground := Go.Ground.phase }, { on := 1, ground := Go.Ground.phase }, { on := 2, ground := Go.Ground.phase }, { on := 3, ground := Go.Ground.phase }, { on := 4, ground := Go.Ground.phase }, { on := 5, ground := Go.Ground.phase }, { on := 6, ground := Go.Ground.phase }, { on := 7, ground := Go.Ground.phase }, { on := 8, ground := Go.Ground.phase }, { on := 9, ground := Go.Ground.phase }, { on := 10, ground := Go.Ground.phase }, { on := 11, ground := Go.Ground.phase }, { on := 12, ground := Go.Ground.phase }, { on := 13, ground := Go.Ground.phase }], guard := none } : Go.Oper)) (v := ?v20) rfl (by kernel_rfl) (by kernel_rfl) (by kernel_rfl) (fun _ _ _ h => h) (Or.inl ⟨by rfl, ?hy20⟩) (by assumption) ?rest20
            case hy20 => (intro w hSw; (try dsimp only at hSw); go_simp; (try with_reducible rfl))
            (try simp only [Act.put, List.getElem_toArray, List.getElem_cons_zero, List.getElem_cons_succ, List.setIfInBounds_toArray, List.set_cons_zero, List.set_cons_succ])
            refine wpAnyH_done (by kernel_rfl) ?_ _
          case' more12 =>
            refine AllReadyH.cons (o := ({ dst := some 80, op := Go.Op.convert 22 9 (Go.Operand.tmp 79), type := 9, pos := "law.go:141", after := #[{ on := 3, ground := Go.Ground.data }], guard := none } : Go.Oper)) rfl (fun K hK => ?_) AllReadyH.nil
            go_simp; rw [Rd.str (P := Try.prog) (x := lisB xs) (?_ : Rd _ A5 n5 (lisB xs)) c5 22 5 9 Try.underlying22 Try.underlying5 Try.underlying9]; rotate_left; exact (r5.ext (by with_reducible (repeat (first | exact Ext.rfl_ _ | assumption | refine Ext.drew ?_ | refine Ext.drewN ?_ _ | refine Ext.alloc ?_ _ | refine Ext.trans ?_ (by assumption))))); simp only [Result.andThen]; go_simp
            refine hK.out _ _ (by (try dsimp only); (try exact trivial)) (fun hHeld => ?_)
            clear hK K
            (try simp only [Act.put, List.getElem_toArray, List.getElem_cons_zero, List.getElem_cons_succ, List.setIfInBounds_toArray, List.set_cons_zero, List.set_cons_succ])
            refine wpAnyH_ready (rs := [1]) (by kernel_rfl) (by simp) ?_
            refine AllReadyH.cons (o := ({ dst := some 77, op := Go.Op.convert 22 9 (Go.Operand.tmp 76), type := 9, pos := "law.go:141", after := #[{ on := 0, ground := Go.Ground.data }], guard := none } : Go.Oper)) rfl (fun K hK => ?_) AllReadyH.nil
            go_simp; rw [Rd.str (P := Try.prog) (x := lisB xs) (?_ : Rd _ A2 n2 (lisB xs)) c2 22 5 9 Try.underlying22 Try.underlying5 Try.underlying9]; rotate_left; exact (R2'.out.ext (Z4.out.trans (by with_reducible (repeat (first | exact Ext.rfl_ _ | assumption | refine Ext.drew ?_ | refine Ext.drewN ?_ _ | refine Ext.alloc ?_ _ | refine Ext.trans ?_ (by assumption)))))); simp only [Result.andThen]; go_simp
            refine hK.out _ _ (by (try dsimp only); (try exact trivial)) (fun hHeld => ?_)
            clear hK K
            (try simp only [Act.put, List.getElem_toArray, List.getElem_cons_zero, List.getElem_cons_succ, List.setIfInBounds_toArray, List.set_cons_zero, List.set_cons_succ])
            refine wpAnyH_take (i := 5) (oi := ({ dst := some 81, op := Go.Op.binOp Go.BinOp.eql 9 (Go.Operand.tmp 77) (Go.Operand.tmp 80) 9, type := 4, pos := "law.go:141", after := #[{ on := 1, ground := Go.Ground.data }, { on := 4, ground := Go.Ground.data }], guard := none } : Go.Oper)) (v := ?v21) rfl (by kernel_rfl) (by kernel_rfl) (by kernel_rfl) (fun _ _ _ h => h) (Or.inl ⟨by rfl, ?hy21⟩) (by assumption) ?rest21
            case hy21 => (intro w hSw; (try dsimp only at hSw); go_simp; (try with_reducible rfl))
            (try simp only [Act.put, List.getElem_toArray, List.getElem_cons_zero, List.getElem_cons_succ, List.setIfInBounds_toArray, List.set_cons_zero, List.set_cons_succ])
            refine wpAnyH_take (i := 6) (oi := ({ dst := some 82, op := Go.Op.move (Go.Operand.tmp 81), type := 4, pos := "law.go:141", after := #[{ on := 5, ground := Go.Ground.data }, { on := 3, ground := Go.Ground.chain }], guard := none } : Go.Oper)) (v := ?v22) rfl (by kernel_rfl) (by kernel_rfl) (by kernel_rfl) (fun _ _ _ h => h) (Or.inl ⟨by rfl, ?hy22⟩) (by assumption) ?rest22
            case hy22 => (intro w hSw; (try dsimp only at hSw); go_simp; (try with_reducible rfl))
            (try simp only [Act.put, List.getElem_toArray, List.getElem_cons_zero, List.getElem_cons_succ, List.setIfInBounds_toArray, List.set_cons_zero, List.set_cons_succ])
            refine wpAnyH_take (i := 7) (oi := ({ dst := some 83, op := Go.Op.move (Go.Operand.tmp 6), type := 31, pos := "law.go:141", after := #[{ on := 6, ground := Go.Ground.guard }], guard := some (6, true) } : Go.Oper)) (v := ?v23) rfl (by kernel_rfl) (by kernel_rfl) (by kernel_rfl) (fun _ _ _ h => h) (Or.inl ⟨by rfl, ?hy23⟩) (by assumption) ?rest23
            case hy23 => (intro w hSw; (try dsimp only at hSw); go_simp; (try with_reducible rfl))
            (try simp only [Act.put, List.getElem_toArray, List.getElem_cons_zero, List.getElem_cons_succ, List.setIfInBounds_toArray, List.set_cons_zero, List.set_cons_succ])
            refine wpAnyH_ready (rs := [8]) (by kernel_rfl) (by simp) ?_
            refine AllReadyH.cons (o := ({ dst := some 84, op := Go.Op.call { callee := Go.Callee.value (Go.Operand.func 19), args := #[Go.Operand.tmp 83], argTypes := #[31] }, type := 3, pos := "law.go:141", after := #[{ on := 7, ground := Go.Ground.data }, { on := 6, ground := Go.Ground.chain }, { on := 6, ground := Go.Ground.guard }], guard := some (6, true) } : Go.Oper)) rfl (fun K hK => ?_) AllReadyH.nil
            go_simp
            (first | (go_at_call 19; refine (num_any _ _).mono ?_; rintro e w6 ⟨rfl, rfl⟩) | (go_at_call 42; refine (rlist_any A n c xs _ (HL.out.ext (X4.out.trans (by with_reducible (repeat (first | exact Ext.rfl_ _ | assumption | refine Ext.drew ?_ | refine Ext.drewN ?_ _ | refine Ext.alloc ?_ _ | refine Ext.trans ?_ (by assumption)))))) (by omega) HMA.out).mono ?_; rintro e w7 ⟨v5, rfl, o5, hw7⟩; obtain ⟨A5, n5, c5, rfl, _, r5, _⟩ := o5.formN) | (go_at_call 15; refine (known_any _).mono ?_; rintro e w9 ⟨rfl, hw9⟩))
            (try (go_wp2_with fail))
            refine hK.out _ _ (by (try dsimp only); (try exact trivial)) (fun hHeld => ?_)
            clear hK K
            (try simp only [Act.put, List.getElem_toArray, List.getElem_cons_zero, List.getElem_cons_succ, List.setIfInBounds_toArray, List.set_cons_zero, List.set_cons_succ])
            refine wpAnyH_take (i := 9) (oi := ({ dst := some 85, op := Go.Op.binOp Go.BinOp.eql 3 (Go.Operand.tmp 84) (Go.Operand.const (Go.Value.int Go.IntKind.i64 0)) 3, type := 4, pos := "law.go:141", after := #[{ on := 8, ground := Go.Ground.data }, { on := 6, ground := Go.Ground.guard }], guard := some (6, true) } : Go.Oper)) (v := ?v24) rfl (by kernel_rfl) (by kernel_rfl) (by kernel_rfl) (fun _ _ _ h => h) (Or.inl ⟨by rfl, ?hy24⟩) (by assumption) ?rest24
            case hy24 => (intro w hSw; (try dsimp only at hSw); go_simp; (try with_reducible rfl))
            (try simp only [Act.put, List.getElem_toArray, List.getElem_cons_zero, List.getElem_cons_succ, List.setIfInBounds_toArray, List.set_cons_zero, List.set_cons_succ])
            refine wpAnyH_take (i := 10) (oi := ({ dst := some 86, op := Go.Op.pick (Go.Operand.tmp 82) (Go.Operand.tmp 85) (Go.Operand.const (Go.Value.bool false)), type := 4, pos := "law.go:141", after := #[{ on := 6, ground := Go.Ground.data }, { on := 9, ground := Go.Ground.data }], guard := none } : Go.Oper)) (v := ?v25) rfl (by kernel_rfl) (by kernel_rfl) (by kernel_rfl) (fun _ _ _ h => h) (Or.inl ⟨by rfl, ?hy25⟩) (by assumption) ?rest25
            case hy25 => (intro w hSw; (try dsimp only at hSw); go_simp; (try with_reducible rfl))
            (try simp only [Act.put, List.getElem_toArray, List.getElem_cons_zero, List.getElem_cons_succ, List.setIfInBounds_toArray, List.set_cons_zero, List.set_cons_succ])
            refine wpAnyH_take (i := 11) (oi := ({ dst := some 87, op := Go.Op.move (Go.Operand.tmp 86), type := 4, pos := "law.go:141", after := #[{ on := 10, ground := Go.Ground.data }, { on := 8, ground := Go.Ground.chain }], guard := none } : Go.Oper)) (v := ?v26) rfl (by kernel_rfl) (by kernel_rfl) (by kernel_rfl) (fun _ _ _ h => h) (Or.inl ⟨by rfl, ?hy26⟩) (by assumption) ?rest26
            case hy26 => (intro w hSw; (try dsimp only at hSw); go_simp; (try with_reducible rfl))
            (try simp only [Act.put, List.getElem_toArray, List.getElem_cons_zero, List.getElem_cons_succ, List.setIfInBounds_toArray, List.set_cons_zero, List.set_cons_succ])
            refine wpAnyH_ready (rs := [12]) (by kernel_rfl) (by simp) ?_
            refine AllReadyH.cons (o := ({ dst := some 88, op := Go.Op.call { callee := Go.Callee.value (Go.Operand.func 15), args := #[], argTypes := #[] }, type := 4, pos := "law.go:141", after := #[{ on := 11, ground := Go.Ground.chain }, { on := 11, ground := Go.Ground.guard }], guard := some (11, true) } : Go.Oper)) rfl (fun K hK => ?_) AllReadyH.nil
            go_simp
            (first | (go_at_call 19; refine (num_any _ _).mono ?_; rintro e w6 ⟨rfl, rfl⟩) | (go_at_call 42; refine (rlist_any A n c xs _ (HL.out.ext (X4.out.trans (by with_reducible (repeat (first | exact Ext.rfl_ _ | assumption | refine Ext.drew ?_ | refine Ext.drewN ?_ _ | refine Ext.alloc ?_ _ | refine Ext.trans ?_ (by assumption)))))) (by omega) HMA.out).mono ?_; rintro e w7 ⟨v5, rfl, o5, hw7⟩; obtain ⟨A5, n5, c5, rfl, _, r5, _⟩ := o5.formN) | (go_at_call 15; refine (known_any _).mono ?_; rintro e w9 ⟨rfl, hw9⟩))
            (try (go_wp2_with fail))
            refine hK.out _ _ (by (try dsimp only); (try exact trivial)) (fun hHeld => ?_)
            clear hK K
            (try simp only [Act.put, List.getElem_toArray, List.getElem_cons_zero, List.getElem_cons_succ, List.setIfInBounds_toArray, List.set_cons_zero, List.set_cons_succ])
            refine wpAnyH_take (i := 13) (oi := ({ dst := some 89, op := Go.Op.pick (Go.Operand.tmp 87) (Go.Operand.tmp 88) (Go.Operand.const (Go.Value.bool false)), type := 4, pos := "law.go:141", after := #[{ on := 11, ground := Go.Ground.data }, { on := 12, ground := Go.Ground.data }], guard := none } : Go.Oper)) (v := ?v27) rfl (by kernel_rfl) (by kernel_rfl) (by kernel_rfl) (fun _ _ _ h => h) (Or.inl ⟨by rfl, ?hy27⟩) (by assumption) ?rest27
            case hy27 => (intro w hSw; (try dsimp only at hSw); go_simp; (try with_reducible rfl))
            (try simp only [Act.put, List.getElem_toArray, List.getElem_cons_zero, List.getElem_cons_succ, List.setIfInBounds_toArray, List.set_cons_zero, List.set_cons_succ])
            refine wpAnyH_take (i := 14) (oi := ({ dst := some 4, op := Go.Op.assign (Go.Operand.tmp 89), type := 4, pos := "law.go:141", after := #[{ on := 13, ground := Go.Ground.data }, { on := 12, ground := Go.Ground.chain }, { on := 0, ground := Go.Ground.phase }, { on := 1, ground := Go.Ground.phase }, { on := 2, ground := Go.Ground.phase }, { on := 3, ground := Go.Ground.phase }, { on := 4, ground := Go.Ground.phase }, { on := 5, ground := Go.Ground.phase }, { on := 6, ground := Go.Ground.phase }, { on := 7, ground := Go.Ground.phase }, { on := 8, ground := Go.Ground.phase }, { on := 9, ground := Go.Ground.phase }, { on := 10, ground := Go.Ground.phase }, { on := 11, ground := Go.Ground.phase }, { on := 12, ground := Go.Ground.phase }, { on := 13, ground := Go.Ground.phase }], guard := none } : Go.Oper)) (v := ?v28) rfl (by kernel_rfl) (by kernel_rfl) (by kernel_rfl) (fun _ _ _ h => h) (Or.inl ⟨by rfl, ?hy28⟩) (by assumption) ?rest28
            case hy28 => (intro w hSw; (try dsimp only at hSw); go_simp; (try with_reducible rfl))
            (try simp only [Act.put, List.getElem_toArray, List.getElem_cons_zero, List.getElem_cons_succ, List.setIfInBounds_toArray, List.set_cons_zero, List.set_cons_succ])
            refine wpAnyH_done (by kernel_rfl) ?_ _
        all_goals
          go_wp2
          go_ret
          exact ⟨rfl, X4.out.trans (by with_reducible (repeat (first | exact Ext.rfl_ _ | assumption | refine Ext.drew ?_ | refine Ext.drewN ?_ _ | refine Ext.alloc ?_ _ | refine Ext.trans ?_ (by assumption))))⟩
    | false =>
      rw [hq] at hb
      subst hb
      have hno : (decide (xs.length ≤ 65536) && allMay xs) = false := by
        rcases Bool.and_eq_false_iff.1 hq with h | h
        · simp [h]
        · simp [allMay_take_no h]
      have hwl := wrL_no hno
      have hrn : (rdLN x != rdLN x) = false := by simp
      clear hq hbs hno
      have hn2 : n2 = 0 := by rw [← R2.out.1, hwl.1]; rfl
      subst hn2
      by_cases c1 : (k : Int) < (n : Int)
      all_goals
        go_wp2_with fail
        refine (rsameL_any A3 n3 c3 A4 n4 c4 (rdL x) (rdL x) _ (R3.out.ext (Y4.out.trans (by with_reducible (repeat (first | exact Ext.rfl_ _ | assumption | refine Ext.drew ?_ | refine Ext.drewN ?_ _ | refine Ext.alloc ?_ _ | refine Ext.trans ?_ (by assumption)))))) (R4.out.ext (by with_reducible (repeat (first | exact Ext.rfl_ _ | assumption | refine Ext.drew ?_ | refine Ext.drewN ?_ _ | refine Ext.alloc ?_ _ | refine Ext.trans ?_ (by assumption)))))).mono ?_
        rintro e w5 ⟨rfl, hw5⟩
        rw [decide_eq_true rfl]
        go_wp2_with fail
        refine (num_any _ _).mono ?_
        rintro e w6 ⟨rfl, rfl⟩
        go_wp2_with fail
        refine (num_any _ _).mono ?_
        rintro e w7 ⟨rfl, rfl⟩
        go_wp2_with fail
        refine (known_any _).mono ?_
        rintro e w8 ⟨rfl, hw8⟩
        go_wp2
        go_ret
        exact ⟨rfl, X4.out.trans (by with_reducible (repeat (first | exact Ext.rfl_ _ | assumption | refine Ext.drew ?_ | refine Ext.drewN ?_ _ | refine Ext.alloc ?_ _ | refine Ext.trans ?_ (by assumption))))⟩

end Go.Proofs.Ytpohmoakilioiaa
