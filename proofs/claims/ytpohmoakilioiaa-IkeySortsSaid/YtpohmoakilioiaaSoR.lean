/- The reference's Rising and CopyList at entries. Conditions: the entries read. -/
import Derived.Test.YtpohmoakilioiaaRising
import Derived.Test.YtpohmoakilioiaaRefD
import Derived.Test.YtpohmoakilioiaaKx
import Derived.Test.YtpohmoakilioiaaCopyF
import Derived.BigRegion
namespace Go.Proofs.Ytpohmoakilioiaa
set_option linter.unusedSimpArgs false
set_option linter.unusedVariables false
set_option maxRecDepth 100000
open Go.RowKit

def riseB (xs : List Ent) : Bool := decide ((ris none xs).length = xs.length)
theorem take_at {xs : List Ent} {k : Nat} (h : k < xs.length) : xs.take (k + 1) = xs.take k ++ [xs[k]] := List.take_succ_eq_append_getElem h
theorem r6at {w wr : World} {b o k n : Nat} {xs : List Ent} (h : RdL w (some ⟨b, o, none⟩) n xs) (hk : k < n) (e : Ext w wr) : ∃ A1 n1 c1 A2 n2 c2, ∃ (hx : k < xs.length), wr.cell? ⟨b, o + k * 4, none⟩ = some (.slice A1 n1 c1) ∧ wr.cell? ⟨b, o + k * 4 + 1, none⟩ = some (.int .i64 xs[k].seq) ∧ wr.cell? ⟨b, o + k * 4 + 2, none⟩ = some (.int .i64 xs[k].kind) ∧ wr.cell? ⟨b, o + k * 4 + 3, none⟩ = some (.slice A2 n2 c2) ∧
    RdE w (.agg #[.slice A1 n1 c1, .int .i64 xs[k].seq, .int .i64 xs[k].kind, .slice A2 n2 c2]) xs[k] := by
  obtain ⟨b', o', A1, n1, c1, A2, n2, c2, y, e1, hy, ⟨d0, d1, d2, d3⟩, hry⟩ := h.at_ k hk
  cases e1
  have hx : k < xs.length := by have := h.1; omega
  have hyk : xs[k] = y := by rw [List.getElem?_eq_getElem hx] at hy; exact Option.some.inj hy
  subst hyk
  exact ⟨A1, n1, c1, A2, n2, c2, hx, e.keeps _ _ _ d0, e.keeps _ _ _ d1, e.keeps _ _ _ d2, e.keeps _ _ _ d3, hry⟩
theorem keep4' {w w' : World} {b o : Nat} {a0 a1 a2 a3 : Value} (e : Ext w w') (h0 : w.cell? ⟨b, o, none⟩ = some a0) (h1 : w.cell? ⟨b, o + 1, none⟩ = some a1) (h2 : w.cell? ⟨b, o + 2, none⟩ = some a2) (h3 : w.cell? ⟨b, o + 3, none⟩ = some a3) :
    w'.cell? ⟨b, o, none⟩ = some a0 ∧ w'.cell? ⟨b, o + 1, none⟩ = some a1 ∧ w'.cell? ⟨b, o + 2, none⟩ = some a2 ∧ w'.cell? ⟨b, o + 3, none⟩ = some a3 := ⟨e.keeps _ _ _ h0, e.keeps _ _ _ h1, e.keeps _ _ _ h2, e.keeps _ _ _ h3⟩
theorem last_take {xs : List Ent} {k : Nat} (h0 : 0 < k) (hk : k ≤ xs.length) : (xs.take k).getLast? = some (xs[k - 1]'(by omega)) := by
  rw [List.getLast?_eq_getElem?, List.length_take, Nat.min_eq_left hk, List.getElem?_eq_getElem (by rw [List.length_take]; omega), List.getElem_take]
theorem beh_first {xs : List Ent} {k : Nat} {x : Ent} (h0 : k = 0) (hm : mayE x = true) : behO (xs.take k).getLast? x = true := by
  subst h0
  simp [behO, hm]
theorem ret_b {a b : Bool} (h : a = b) : Ending.returned (.bool a) = Ending.returned (.bool b) := by rw [h]

set_option maxRecDepth 100000 in
set_option maxHeartbeats 4000000 in
theorem rrising_any (A : Option Addr) (n c : Nat) (xs : List Ent) (w : World) (hl : RdL w A n xs) (hnc : n ≤ c) :
    Calls Try.prog 46 #[.slice A n c] w fun e w' => e = .returned (.bool (riseB xs)) ∧ Ext w w' := by
  have HL := Lib.hid hl
  have hxl := hl.1
  have hn41 := hl.2.1
  unfold B41 at hn41
  clear hl
  go_enter Try.func46, Try.ntmps46
  go_wp2
  go_loopw [3] (fun i wr => ∃ k : Nat, k ≤ n ∧ i = .int .i64 k ∧ Hid (ris none xs = xs.take k ++ ris (xs.take k).getLast? (xs.drop k)) ∧ Ext w wr) (fun i _ => n - (intOf i).toNat)
  case atStart => exact ⟨0, Nat.zero_le _, rfl, Lib.hid (by simp), Ext.rfl_ _⟩
  case round =>
    obtain ⟨k, hk, rfl, HR, hE⟩ := hrel
    by_cases hlt : k < n
    · have hltI : (k : Int) < (n : Int) := by omega
      have hncI : (n : Int) ≤ (c : Int) := by omega
      have hjc2 : k < c := by omega
      have hkc : (k : Int) < (c : Int) := by omega
      obtain ⟨b, o, rfl, _⟩ := HL.out.2.2 (by omega)
      obtain ⟨A1, n1, c1, A2, n2, c2, hx, e0, e1, e2, e3, hry⟩ := r6at HL.out hlt hE
      have E0 := Lib.hid e0
      have E1 := Lib.hid e1
      have E2 := Lib.hid e2
      have E3 := Lib.hid e3
      have HY := Lib.hid (hry.ext hE)
      have HE := Lib.hid hE
      clear hry hE e0 e1 e2 e3
      by_cases hm : mayE xs[k] = true
      · have HM := Lib.hid hm
        clear hm
        by_cases h0 : k = 0
        · have k0 : ¬ (0 : Int) < (k : Int) := by omega
          have dk0 : decide ((0 : Int) < (k : Int)) = false := decide_eq_false k0
          have dk1 : decide (0 < k) = false := decide_eq_false (by omega)
          have hg : behO (xs.take k).getLast? xs[k] = true := beh_first h0 HM.out
          have HG := Lib.hid (ris_go hx HR.out hg)
          clear hg h0
          go_wp2
          refine wp_region_held_drew (S := (fun w' => w'.cell? ⟨b, o + k * 4, none⟩ = some (.slice A1 n1 c1) ∧ w'.cell? ⟨b, o + k * 4 + 1, none⟩ = some (.int .i64 xs[k].seq) ∧ w'.cell? ⟨b, o + k * 4 + 2, none⟩ = some (.int .i64 xs[k].kind) ∧ w'.cell? ⟨b, o + k * 4 + 3, none⟩ = some (.slice A2 n2 c2))) (by kernel_rfl) (by (try dsimp only); exact keep4' (w := wr) (by with_reducible (repeat (first | exact Ext.rfl_ _ | assumption | refine Ext.drew ?_ | refine Ext.drewN ?_ _ | refine Ext.alloc ?_ _ | refine Ext.trans ?_ (by assumption)))) E0.out E1.out E2.out E3.out) (fun hHeld => ?_)
          refine wpAnyH_take (i := 0) (oi := ({ dst := some 10, op := .move (.tmp 0), type := 42, pos := "ref.go:165", after := #[], guard := none } : Go.Oper)) (v := ?v1) rfl (by kernel_rfl) (by kernel_rfl) (by kernel_rfl) (fun _ _ _ h => h) (Or.inl ⟨by rfl, ?hy1⟩) (by assumption) ?rest1
          case hy1 => (intro w hSw; (try dsimp only at hSw); go_simp; (try with_reducible rfl))
          (try simp only [Act.put, List.getElem_toArray, List.getElem_cons_zero, List.getElem_cons_succ, List.setIfInBounds_toArray, List.set_cons_zero, List.set_cons_succ])
          refine wpAnyH_take (i := 1) (oi := ({ dst := some 11, op := .move (.tmp 3), type := 3, pos := "ref.go:165", after := #[], guard := none } : Go.Oper)) (v := ?v2) rfl (by kernel_rfl) (by kernel_rfl) (by kernel_rfl) (fun _ _ _ h => h) (Or.inl ⟨by rfl, ?hy2⟩) (by assumption) ?rest2
          case hy2 => (intro w hSw; (try dsimp only at hSw); go_simp; (try with_reducible rfl))
          (try simp only [Act.put, List.getElem_toArray, List.getElem_cons_zero, List.getElem_cons_succ, List.setIfInBounds_toArray, List.set_cons_zero, List.set_cons_succ])
          refine wpAnyH_take (i := 2) (oi := ({ dst := some 12, op := .indexAddr 42 (.tmp 10) (.tmp 11), type := 0, pos := "ref.go:165", after := #[⟨0, .data⟩, ⟨1, .data⟩], guard := none } : Go.Oper)) (v := ?v3) rfl (by kernel_rfl) (by kernel_rfl) (by kernel_rfl) (fun _ _ _ h => h) (Or.inl ⟨by rfl, ?hy3⟩) (by assumption) ?rest3
          case hy3 => (intro w hSw; (try dsimp only at hSw); go_simp; (try with_reducible rfl))
          (try simp only [Act.put, List.getElem_toArray, List.getElem_cons_zero, List.getElem_cons_succ, List.setIfInBounds_toArray, List.set_cons_zero, List.set_cons_succ])
          refine wpAnyH_take (i := 3) (oi := ({ dst := some 13, op := .load 25 (.tmp 12), type := 25, pos := "ref.go:165", after := #[⟨2, .data⟩], guard := none } : Go.Oper)) (v := ?v4) rfl (by kernel_rfl) (by kernel_rfl) (by kernel_rfl) (fun _ _ _ h => h) (Or.inl ⟨by rfl, ?hy4⟩) (by assumption) ?rest4
          case hy4 => (intro w hSw; (try dsimp only at hSw); go_simp; (try with_reducible rfl))
          (try simp only [Act.put, List.getElem_toArray, List.getElem_cons_zero, List.getElem_cons_succ, List.setIfInBounds_toArray, List.set_cons_zero, List.set_cons_succ])
          refine wpAnyH_ready (rs := [4]) (by kernel_rfl) (by simp) ?_
          refine AllReadyH.cons (o := ({ dst := some 14, op := .call { callee := .value (.func 18), args := #[.tmp 13], argTypes := #[25] }, type := 4, pos := "ref.go:165", after := #[⟨3, .data⟩], guard := none } : Go.Oper)) rfl (fun K hK => ?_) AllReadyH.nil
          go_simp
          refine (rmay_any _ xs[k] _ (HY.out.ext (by with_reducible (repeat (first | exact Ext.rfl_ _ | assumption | refine Ext.drew ?_ | refine Ext.drewN ?_ _ | refine Ext.alloc ?_ _ | refine Ext.trans ?_ (by assumption)))))).mono ?_; rintro e w2 ⟨rfl, hw2⟩; rw [HM.out]
          (try (go_wp2_with fail))
          refine hK.out _ _ (by (try dsimp only); exact keep4' (w := wr) (by with_reducible (repeat (first | exact Ext.rfl_ _ | assumption | refine Ext.drew ?_ | refine Ext.drewN ?_ _ | refine Ext.alloc ?_ _ | refine Ext.trans ?_ (by assumption)))) E0.out E1.out E2.out E3.out) (fun hHeld => ?_)
          clear hK K
          (try simp only [Act.put, List.getElem_toArray, List.getElem_cons_zero, List.getElem_cons_succ, List.setIfInBounds_toArray, List.set_cons_zero, List.set_cons_succ])
          refine wpAnyH_take (i := 5) (oi := ({ dst := some 15, op := .unOp .not 4 (.tmp 14), type := 4, pos := "ref.go:165", after := #[⟨4, .data⟩], guard := none } : Go.Oper)) (v := ?v5) rfl (by kernel_rfl) (by kernel_rfl) (by kernel_rfl) (fun _ _ _ h => h) (Or.inl ⟨by rfl, ?hy5⟩) (by assumption) ?rest5
          case hy5 => (intro w hSw; (try dsimp only at hSw); go_simp; (try with_reducible rfl))
          (try simp only [Act.put, List.getElem_toArray, List.getElem_cons_zero, List.getElem_cons_succ, List.setIfInBounds_toArray, List.set_cons_zero, List.set_cons_succ])
          refine wpAnyH_take (i := 6) (oi := ({ dst := some 16, op := .move (.tmp 15), type := 4, pos := "ref.go:165", after := #[⟨5, .data⟩, ⟨4, .chain⟩], guard := none } : Go.Oper)) (v := ?v6) rfl (by kernel_rfl) (by kernel_rfl) (by kernel_rfl) (fun _ _ _ h => h) (Or.inl ⟨by rfl, ?hy6⟩) (by assumption) ?rest6
          case hy6 => (intro w hSw; (try dsimp only at hSw); go_simp; (try with_reducible rfl))
          (try simp only [Act.put, List.getElem_toArray, List.getElem_cons_zero, List.getElem_cons_succ, List.setIfInBounds_toArray, List.set_cons_zero, List.set_cons_succ])
          refine wpAnyH_take (i := 7) (oi := ({ dst := some 17, op := .move (.tmp 3), type := 3, pos := "ref.go:165", after := #[⟨6, .guard⟩], guard := some (6, false) } : Go.Oper)) (v := ?v7) rfl (by kernel_rfl) (by kernel_rfl) (by kernel_rfl) (fun _ _ _ h => h) (Or.inl ⟨by rfl, ?hy7⟩) (by assumption) ?rest7
          case hy7 => (intro w hSw; (try dsimp only at hSw); go_simp; (try with_reducible rfl))
          (try simp only [Act.put, List.getElem_toArray, List.getElem_cons_zero, List.getElem_cons_succ, List.setIfInBounds_toArray, List.set_cons_zero, List.set_cons_succ])
          refine wpAnyH_take (i := 8) (oi := ({ dst := some 18, op := .binOp .gtr 3 (.tmp 17) (.const (.int .i64 0)) 3, type := 4, pos := "ref.go:165", after := #[⟨7, .data⟩, ⟨6, .guard⟩], guard := some (6, false) } : Go.Oper)) (v := ?v8) rfl (by kernel_rfl) (by kernel_rfl) (by kernel_rfl) (fun _ _ _ h => h) (Or.inl ⟨by rfl, ?hy8⟩) (by assumption) ?rest8
          case hy8 => (intro w hSw; (try dsimp only at hSw); go_simp; (try with_reducible rfl))
          (try simp only [Act.put, List.getElem_toArray, List.getElem_cons_zero, List.getElem_cons_succ, List.setIfInBounds_toArray, List.set_cons_zero, List.set_cons_succ])
          refine wpAnyH_take (i := 9) (oi := ({ dst := some 19, op := .move (.tmp 18), type := 4, pos := "ref.go:165", after := #[⟨8, .data⟩, ⟨6, .chain⟩, ⟨6, .guard⟩], guard := some (6, false) } : Go.Oper)) (v := ?v9) rfl (by kernel_rfl) (by kernel_rfl) (by kernel_rfl) (fun _ _ _ h => h) (Or.inl ⟨by rfl, ?hy9⟩) (by assumption) ?rest9
          case hy9 => (intro w hSw; (try dsimp only at hSw); go_simp; (try with_reducible rfl))
          (try simp only [Act.put, List.getElem_toArray, List.getElem_cons_zero, List.getElem_cons_succ, List.setIfInBounds_toArray, List.set_cons_zero, List.set_cons_succ])
          refine wpAnyH_take (i := 10) (oi := ({ dst := some 20, op := .move (.tmp 0), type := 42, pos := "ref.go:165", after := #[⟨9, .guard⟩], guard := some (9, true) } : Go.Oper)) (v := undef) rfl (by kernel_rfl) (by kernel_rfl) (by kernel_rfl) (fun _ _ _ h => h) (Or.inr ⟨by rfl, rfl⟩) (by assumption) ?_
          (try simp only [Act.put, List.getElem_toArray, List.getElem_cons_zero, List.getElem_cons_succ, List.setIfInBounds_toArray, List.set_cons_zero, List.set_cons_succ])
          refine wpAnyH_take (i := 11) (oi := ({ dst := some 21, op := .move (.tmp 3), type := 3, pos := "ref.go:165", after := #[⟨9, .guard⟩], guard := some (9, true) } : Go.Oper)) (v := undef) rfl (by kernel_rfl) (by kernel_rfl) (by kernel_rfl) (fun _ _ _ h => h) (Or.inr ⟨by rfl, rfl⟩) (by assumption) ?_
          (try simp only [Act.put, List.getElem_toArray, List.getElem_cons_zero, List.getElem_cons_succ, List.setIfInBounds_toArray, List.set_cons_zero, List.set_cons_succ])
          refine wpAnyH_take (i := 12) (oi := ({ dst := some 22, op := .binOp .sub 3 (.tmp 21) (.const (.int .i64 1)) 3, type := 3, pos := "ref.go:165", after := #[⟨11, .data⟩, ⟨9, .guard⟩], guard := some (9, true) } : Go.Oper)) (v := undef) rfl (by kernel_rfl) (by kernel_rfl) (by kernel_rfl) (fun _ _ _ h => h) (Or.inr ⟨by rfl, rfl⟩) (by assumption) ?_
          (try simp only [Act.put, List.getElem_toArray, List.getElem_cons_zero, List.getElem_cons_succ, List.setIfInBounds_toArray, List.set_cons_zero, List.set_cons_succ])
          refine wpAnyH_take (i := 13) (oi := ({ dst := some 23, op := .indexAddr 42 (.tmp 20) (.tmp 22), type := 0, pos := "ref.go:165", after := #[⟨10, .data⟩, ⟨12, .data⟩, ⟨9, .guard⟩], guard := some (9, true) } : Go.Oper)) (v := undef) rfl (by kernel_rfl) (by kernel_rfl) (by kernel_rfl) (fun _ _ _ h => h) (Or.inr ⟨by rfl, rfl⟩) (by assumption) ?_
          (try simp only [Act.put, List.getElem_toArray, List.getElem_cons_zero, List.getElem_cons_succ, List.setIfInBounds_toArray, List.set_cons_zero, List.set_cons_succ])
          refine wpAnyH_take (i := 14) (oi := ({ dst := some 24, op := .load 25 (.tmp 23), type := 25, pos := "ref.go:165", after := #[⟨13, .data⟩, ⟨9, .guard⟩], guard := some (9, true) } : Go.Oper)) (v := undef) rfl (by kernel_rfl) (by kernel_rfl) (by kernel_rfl) (fun _ _ _ h => h) (Or.inr ⟨by rfl, rfl⟩) (by assumption) ?_
          (try simp only [Act.put, List.getElem_toArray, List.getElem_cons_zero, List.getElem_cons_succ, List.setIfInBounds_toArray, List.set_cons_zero, List.set_cons_succ])
          refine wpAnyH_take (i := 15) (oi := ({ dst := some 25, op := .move (.tmp 0), type := 42, pos := "ref.go:165", after := #[⟨9, .guard⟩], guard := some (9, true) } : Go.Oper)) (v := undef) rfl (by kernel_rfl) (by kernel_rfl) (by kernel_rfl) (fun _ _ _ h => h) (Or.inr ⟨by rfl, rfl⟩) (by assumption) ?_
          (try simp only [Act.put, List.getElem_toArray, List.getElem_cons_zero, List.getElem_cons_succ, List.setIfInBounds_toArray, List.set_cons_zero, List.set_cons_succ])
          refine wpAnyH_take (i := 16) (oi := ({ dst := some 26, op := .move (.tmp 3), type := 3, pos := "ref.go:165", after := #[⟨9, .guard⟩], guard := some (9, true) } : Go.Oper)) (v := undef) rfl (by kernel_rfl) (by kernel_rfl) (by kernel_rfl) (fun _ _ _ h => h) (Or.inr ⟨by rfl, rfl⟩) (by assumption) ?_
          (try simp only [Act.put, List.getElem_toArray, List.getElem_cons_zero, List.getElem_cons_succ, List.setIfInBounds_toArray, List.set_cons_zero, List.set_cons_succ])
          refine wpAnyH_take (i := 17) (oi := ({ dst := some 27, op := .indexAddr 42 (.tmp 25) (.tmp 26), type := 0, pos := "ref.go:165", after := #[⟨15, .data⟩, ⟨16, .data⟩, ⟨9, .guard⟩], guard := some (9, true) } : Go.Oper)) (v := undef) rfl (by kernel_rfl) (by kernel_rfl) (by kernel_rfl) (fun _ _ _ h => h) (Or.inr ⟨by rfl, rfl⟩) (by assumption) ?_
          (try simp only [Act.put, List.getElem_toArray, List.getElem_cons_zero, List.getElem_cons_succ, List.setIfInBounds_toArray, List.set_cons_zero, List.set_cons_succ])
          refine wpAnyH_take (i := 18) (oi := ({ dst := some 28, op := .load 25 (.tmp 27), type := 25, pos := "ref.go:165", after := #[⟨17, .data⟩, ⟨9, .guard⟩], guard := some (9, true) } : Go.Oper)) (v := undef) rfl (by kernel_rfl) (by kernel_rfl) (by kernel_rfl) (fun _ _ _ h => h) (Or.inr ⟨by rfl, rfl⟩) (by assumption) ?_
          (try simp only [Act.put, List.getElem_toArray, List.getElem_cons_zero, List.getElem_cons_succ, List.setIfInBounds_toArray, List.set_cons_zero, List.set_cons_succ])
          refine wpAnyH_take (i := 19) (oi := ({ dst := some 29, op := .call { callee := .value (.func 27), args := #[.tmp 24, .tmp 28], argTypes := #[25, 25] }, type := 3, pos := "ref.go:165", after := #[⟨14, .data⟩, ⟨18, .data⟩, ⟨9, .chain⟩, ⟨9, .guard⟩], guard := some (9, true) } : Go.Oper)) (v := undef) rfl (by kernel_rfl) (by kernel_rfl) (by kernel_rfl) (fun _ _ _ h => h) (Or.inr ⟨by rfl, rfl⟩) (by assumption) ?_
          (try simp only [Act.put, List.getElem_toArray, List.getElem_cons_zero, List.getElem_cons_succ, List.setIfInBounds_toArray, List.set_cons_zero, List.set_cons_succ])
          refine wpAnyH_take (i := 20) (oi := ({ dst := some 30, op := .binOp .geq 3 (.tmp 29) (.const (.int .i64 0)) 3, type := 4, pos := "ref.go:165", after := #[⟨19, .data⟩, ⟨9, .guard⟩], guard := some (9, true) } : Go.Oper)) (v := undef) rfl (by kernel_rfl) (by kernel_rfl) (by kernel_rfl) (fun _ _ _ h => h) (Or.inr ⟨by rfl, rfl⟩) (by assumption) ?_
          (try simp only [Act.put, List.getElem_toArray, List.getElem_cons_zero, List.getElem_cons_succ, List.setIfInBounds_toArray, List.set_cons_zero, List.set_cons_succ])
          refine wpAnyH_take (i := 21) (oi := ({ dst := some 31, op := .pick (.tmp 19) (.tmp 30) (.const (.bool false)), type := 4, pos := "ref.go:165", after := #[⟨9, .data⟩, ⟨20, .data⟩, ⟨6, .guard⟩], guard := some (6, false) } : Go.Oper)) (v := ?v10) rfl (by kernel_rfl) (by kernel_rfl) (by kernel_rfl) (fun _ _ _ h => h) (Or.inl ⟨by rfl, ?hy10⟩) (by assumption) ?rest10
          case hy10 => (intro w hSw; (try dsimp only at hSw); go_simp; (try with_reducible rfl))
          (try simp only [Act.put, List.getElem_toArray, List.getElem_cons_zero, List.getElem_cons_succ, List.setIfInBounds_toArray, List.set_cons_zero, List.set_cons_succ])
          refine wpAnyH_take (i := 22) (oi := ({ dst := some 32, op := .pick (.tmp 16) (.const (.bool true)) (.tmp 31), type := 4, pos := "ref.go:165", after := #[⟨6, .data⟩, ⟨21, .data⟩], guard := none } : Go.Oper)) (v := ?v11) rfl (by kernel_rfl) (by kernel_rfl) (by kernel_rfl) (fun _ _ _ h => h) (Or.inl ⟨by rfl, ?hy11⟩) (by assumption) ?rest11
          case hy11 => (intro w hSw; (try dsimp only at hSw); go_simp; (try with_reducible rfl))
          (try simp only [Act.put, List.getElem_toArray, List.getElem_cons_zero, List.getElem_cons_succ, List.setIfInBounds_toArray, List.set_cons_zero, List.set_cons_succ])
          refine wpAnyH_done (by kernel_rfl) ?_ _
          all_goals
            have x2 : Ext wr w2 := (by with_reducible (repeat (first | exact Ext.rfl_ _ | assumption | refine Ext.drew ?_ | refine Ext.drewN ?_ _ | refine Ext.alloc ?_ _ | refine Ext.trans ?_ (by assumption))))
            go_wp2
            go_roundw
            case rel => exact ⟨k + 1, by omega, by go_num, HG, HE.out.trans x2⟩
            case measure => simp [intOf]; omega
        · have k0 : (0 : Int) < (k : Int) := by omega
          have dk0 : decide ((0 : Int) < (k : Int)) = true := decide_eq_true k0
          have k0n : 0 < k := by omega
          have dk1 : decide (0 < k) = true := decide_eq_true k0n
          have hk1 : k - 1 < n := by omega
          obtain ⟨A3, n3, c3, A4, n4, c4, hx1, p0, p1, p2, p3, hrp⟩ := r6at HL.out hk1 HE.out
          have P0 := Lib.hid p0
          have P1 := Lib.hid p1
          have P2 := Lib.hid p2
          have P3 := Lib.hid p3
          have HP := Lib.hid (hrp.ext HE.out)
          have hkm : (k : Int) - 1 = ((k - 1 : Nat) : Int) := by omega
          have hk1i : ((k - 1 : Nat) : Int) < (n : Int) := by omega
          have hkw : IntKind.i64.wrap ((k - 1 : Nat) : Int) = ((k - 1 : Nat) : Int) := by rw [IntKind.wrap_i64]; omega
          have hk1c : k - 1 < c := by omega
          have hlast := last_take (xs := xs) (k := k) (by omega) (by omega)
          have hz : behO (xs.take k).getLast? xs[k] = decide (cmpE xs[k - 1] xs[k] < 0) := by rw [hlast]; unfold behO; rw [HM.out]; simp
          have HZ := Lib.hid hz
          clear hrp p0 p1 p2 p3 hlast hz
          by_cases hc : (0 : Int) ≤ cmpE xs[k - 1] xs[k]
          · have hb : ¬ behO (xs.take k).getLast? xs[k] = true := by rw [HZ.out]; simp; omega
            have HN := Lib.hid (ris_end hx HR.out hb)
            have HC := Lib.hid (decide_eq_true hc)
            have hres : false = riseB xs := by
              unfold riseB
              rw [HN.out, List.length_take]
              symm
              apply decide_eq_false
              omega
            have HRES := Lib.hid hres
            clear hb hres hc
            go_wp2
            refine wp_region_held_drew (S := (fun w' => (w'.cell? ⟨b, o + k * 4, none⟩ = some (.slice A1 n1 c1) ∧ w'.cell? ⟨b, o + k * 4 + 1, none⟩ = some (.int .i64 xs[k].seq) ∧ w'.cell? ⟨b, o + k * 4 + 2, none⟩ = some (.int .i64 xs[k].kind) ∧ w'.cell? ⟨b, o + k * 4 + 3, none⟩ = some (.slice A2 n2 c2)) ∧ (w'.cell? ⟨b, o + (k - 1) * 4, none⟩ = some (.slice A3 n3 c3) ∧ w'.cell? ⟨b, o + (k - 1) * 4 + 1, none⟩ = some (.int .i64 xs[k - 1].seq) ∧ w'.cell? ⟨b, o + (k - 1) * 4 + 2, none⟩ = some (.int .i64 xs[k - 1].kind) ∧ w'.cell? ⟨b, o + (k - 1) * 4 + 3, none⟩ = some (.slice A4 n4 c4)))) (by kernel_rfl) (by (try dsimp only); exact ⟨keep4' (w := wr) (by with_reducible (repeat (first | exact Ext.rfl_ _ | assumption | refine Ext.drew ?_ | refine Ext.drewN ?_ _ | refine Ext.alloc ?_ _ | refine Ext.trans ?_ (by assumption)))) E0.out E1.out E2.out E3.out, keep4' (w := wr) (by with_reducible (repeat (first | exact Ext.rfl_ _ | assumption | refine Ext.drew ?_ | refine Ext.drewN ?_ _ | refine Ext.alloc ?_ _ | refine Ext.trans ?_ (by assumption)))) P0.out P1.out P2.out P3.out⟩) (fun hHeld => ?_)
            refine wpAnyH_take (i := 0) (oi := ({ dst := some 10, op := .move (.tmp 0), type := 42, pos := "ref.go:165", after := #[], guard := none } : Go.Oper)) (v := ?v12) rfl (by kernel_rfl) (by kernel_rfl) (by kernel_rfl) (fun _ _ _ h => h) (Or.inl ⟨by rfl, ?hy12⟩) (by assumption) ?rest12
            case hy12 => (intro w hSw; (try dsimp only at hSw); go_simp; (try with_reducible rfl))
            (try simp only [Act.put, List.getElem_toArray, List.getElem_cons_zero, List.getElem_cons_succ, List.setIfInBounds_toArray, List.set_cons_zero, List.set_cons_succ])
            refine wpAnyH_take (i := 1) (oi := ({ dst := some 11, op := .move (.tmp 3), type := 3, pos := "ref.go:165", after := #[], guard := none } : Go.Oper)) (v := ?v13) rfl (by kernel_rfl) (by kernel_rfl) (by kernel_rfl) (fun _ _ _ h => h) (Or.inl ⟨by rfl, ?hy13⟩) (by assumption) ?rest13
            case hy13 => (intro w hSw; (try dsimp only at hSw); go_simp; (try with_reducible rfl))
            (try simp only [Act.put, List.getElem_toArray, List.getElem_cons_zero, List.getElem_cons_succ, List.setIfInBounds_toArray, List.set_cons_zero, List.set_cons_succ])
            refine wpAnyH_take (i := 2) (oi := ({ dst := some 12, op := .indexAddr 42 (.tmp 10) (.tmp 11), type := 0, pos := "ref.go:165", after := #[⟨0, .data⟩, ⟨1, .data⟩], guard := none } : Go.Oper)) (v := ?v14) rfl (by kernel_rfl) (by kernel_rfl) (by kernel_rfl) (fun _ _ _ h => h) (Or.inl ⟨by rfl, ?hy14⟩) (by assumption) ?rest14
            case hy14 => (intro w hSw; (try dsimp only at hSw); go_simp; (try with_reducible rfl))
            (try simp only [Act.put, List.getElem_toArray, List.getElem_cons_zero, List.getElem_cons_succ, List.setIfInBounds_toArray, List.set_cons_zero, List.set_cons_succ])
            refine wpAnyH_take (i := 3) (oi := ({ dst := some 13, op := .load 25 (.tmp 12), type := 25, pos := "ref.go:165", after := #[⟨2, .data⟩], guard := none } : Go.Oper)) (v := ?v15) rfl (by kernel_rfl) (by kernel_rfl) (by kernel_rfl) (fun _ _ _ h => h) (Or.inl ⟨by rfl, ?hy15⟩) (by assumption) ?rest15
            case hy15 => (intro w hSw; (try dsimp only at hSw); go_simp; (try with_reducible rfl))
            (try simp only [Act.put, List.getElem_toArray, List.getElem_cons_zero, List.getElem_cons_succ, List.setIfInBounds_toArray, List.set_cons_zero, List.set_cons_succ])
            refine wpAnyH_ready (rs := [4]) (by kernel_rfl) (by simp) ?_
            refine AllReadyH.cons (o := ({ dst := some 14, op := .call { callee := .value (.func 18), args := #[.tmp 13], argTypes := #[25] }, type := 4, pos := "ref.go:165", after := #[⟨3, .data⟩], guard := none } : Go.Oper)) rfl (fun K hK => ?_) AllReadyH.nil
            go_simp
            (first | (go_at_call 18; refine (rmay_any _ xs[k] _ (HY.out.ext (by with_reducible (repeat (first | exact Ext.rfl_ _ | assumption | refine Ext.drew ?_ | refine Ext.drewN ?_ _ | refine Ext.alloc ?_ _ | refine Ext.trans ?_ (by assumption)))))).mono ?_; rintro e w2 ⟨rfl, hw2⟩; rw [HM.out]) | (go_at_call 27; refine (rcompare_any _ _ xs[k - 1] xs[k] _ (HP.out.ext (by with_reducible (repeat (first | exact Ext.rfl_ _ | assumption | refine Ext.drew ?_ | refine Ext.drewN ?_ _ | refine Ext.alloc ?_ _ | refine Ext.trans ?_ (by assumption))))) (HY.out.ext (by with_reducible (repeat (first | exact Ext.rfl_ _ | assumption | refine Ext.drew ?_ | refine Ext.drewN ?_ _ | refine Ext.alloc ?_ _ | refine Ext.trans ?_ (by assumption)))))).mono ?_; rintro e w3 ⟨rfl, hw3⟩; have hc := HC.out))
            (try (go_wp2_with fail))
            refine hK.out _ _ (by (try dsimp only); exact ⟨keep4' (w := wr) (by with_reducible (repeat (first | exact Ext.rfl_ _ | assumption | refine Ext.drew ?_ | refine Ext.drewN ?_ _ | refine Ext.alloc ?_ _ | refine Ext.trans ?_ (by assumption)))) E0.out E1.out E2.out E3.out, keep4' (w := wr) (by with_reducible (repeat (first | exact Ext.rfl_ _ | assumption | refine Ext.drew ?_ | refine Ext.drewN ?_ _ | refine Ext.alloc ?_ _ | refine Ext.trans ?_ (by assumption)))) P0.out P1.out P2.out P3.out⟩) (fun hHeld => ?_)
            clear hK K
            (try simp only [Act.put, List.getElem_toArray, List.getElem_cons_zero, List.getElem_cons_succ, List.setIfInBounds_toArray, List.set_cons_zero, List.set_cons_succ])
            refine wpAnyH_take (i := 5) (oi := ({ dst := some 15, op := .unOp .not 4 (.tmp 14), type := 4, pos := "ref.go:165", after := #[⟨4, .data⟩], guard := none } : Go.Oper)) (v := ?v16) rfl (by kernel_rfl) (by kernel_rfl) (by kernel_rfl) (fun _ _ _ h => h) (Or.inl ⟨by rfl, ?hy16⟩) (by assumption) ?rest16
            case hy16 => (intro w hSw; (try dsimp only at hSw); go_simp; (try with_reducible rfl))
            (try simp only [Act.put, List.getElem_toArray, List.getElem_cons_zero, List.getElem_cons_succ, List.setIfInBounds_toArray, List.set_cons_zero, List.set_cons_succ])
            refine wpAnyH_take (i := 6) (oi := ({ dst := some 16, op := .move (.tmp 15), type := 4, pos := "ref.go:165", after := #[⟨5, .data⟩, ⟨4, .chain⟩], guard := none } : Go.Oper)) (v := ?v17) rfl (by kernel_rfl) (by kernel_rfl) (by kernel_rfl) (fun _ _ _ h => h) (Or.inl ⟨by rfl, ?hy17⟩) (by assumption) ?rest17
            case hy17 => (intro w hSw; (try dsimp only at hSw); go_simp; (try with_reducible rfl))
            (try simp only [Act.put, List.getElem_toArray, List.getElem_cons_zero, List.getElem_cons_succ, List.setIfInBounds_toArray, List.set_cons_zero, List.set_cons_succ])
            refine wpAnyH_take (i := 7) (oi := ({ dst := some 17, op := .move (.tmp 3), type := 3, pos := "ref.go:165", after := #[⟨6, .guard⟩], guard := some (6, false) } : Go.Oper)) (v := ?v18) rfl (by kernel_rfl) (by kernel_rfl) (by kernel_rfl) (fun _ _ _ h => h) (Or.inl ⟨by rfl, ?hy18⟩) (by assumption) ?rest18
            case hy18 => (intro w hSw; (try dsimp only at hSw); go_simp; (try with_reducible rfl))
            (try simp only [Act.put, List.getElem_toArray, List.getElem_cons_zero, List.getElem_cons_succ, List.setIfInBounds_toArray, List.set_cons_zero, List.set_cons_succ])
            refine wpAnyH_take (i := 8) (oi := ({ dst := some 18, op := .binOp .gtr 3 (.tmp 17) (.const (.int .i64 0)) 3, type := 4, pos := "ref.go:165", after := #[⟨7, .data⟩, ⟨6, .guard⟩], guard := some (6, false) } : Go.Oper)) (v := ?v19) rfl (by kernel_rfl) (by kernel_rfl) (by kernel_rfl) (fun _ _ _ h => h) (Or.inl ⟨by rfl, ?hy19⟩) (by assumption) ?rest19
            case hy19 => (intro w hSw; (try dsimp only at hSw); go_simp; (try with_reducible rfl))
            (try simp only [Act.put, List.getElem_toArray, List.getElem_cons_zero, List.getElem_cons_succ, List.setIfInBounds_toArray, List.set_cons_zero, List.set_cons_succ])
            refine wpAnyH_take (i := 9) (oi := ({ dst := some 19, op := .move (.tmp 18), type := 4, pos := "ref.go:165", after := #[⟨8, .data⟩, ⟨6, .chain⟩, ⟨6, .guard⟩], guard := some (6, false) } : Go.Oper)) (v := ?v20) rfl (by kernel_rfl) (by kernel_rfl) (by kernel_rfl) (fun _ _ _ h => h) (Or.inl ⟨by rfl, ?hy20⟩) (by assumption) ?rest20
            case hy20 => (intro w hSw; (try dsimp only at hSw); go_simp; (try with_reducible rfl))
            (try simp only [Act.put, List.getElem_toArray, List.getElem_cons_zero, List.getElem_cons_succ, List.setIfInBounds_toArray, List.set_cons_zero, List.set_cons_succ])
            refine wpAnyH_take (i := 10) (oi := ({ dst := some 20, op := .move (.tmp 0), type := 42, pos := "ref.go:165", after := #[⟨9, .guard⟩], guard := some (9, true) } : Go.Oper)) (v := ?v21) rfl (by kernel_rfl) (by kernel_rfl) (by kernel_rfl) (fun _ _ _ h => h) (Or.inl ⟨by rfl, ?hy21⟩) (by assumption) ?rest21
            case hy21 => (intro w hSw; (try dsimp only at hSw); go_simp; (try with_reducible rfl))
            (try simp only [Act.put, List.getElem_toArray, List.getElem_cons_zero, List.getElem_cons_succ, List.setIfInBounds_toArray, List.set_cons_zero, List.set_cons_succ])
            refine wpAnyH_take (i := 11) (oi := ({ dst := some 21, op := .move (.tmp 3), type := 3, pos := "ref.go:165", after := #[⟨9, .guard⟩], guard := some (9, true) } : Go.Oper)) (v := ?v22) rfl (by kernel_rfl) (by kernel_rfl) (by kernel_rfl) (fun _ _ _ h => h) (Or.inl ⟨by rfl, ?hy22⟩) (by assumption) ?rest22
            case hy22 => (intro w hSw; (try dsimp only at hSw); go_simp; (try with_reducible rfl))
            (try simp only [Act.put, List.getElem_toArray, List.getElem_cons_zero, List.getElem_cons_succ, List.setIfInBounds_toArray, List.set_cons_zero, List.set_cons_succ])
            refine wpAnyH_take (i := 12) (oi := ({ dst := some 22, op := .binOp .sub 3 (.tmp 21) (.const (.int .i64 1)) 3, type := 3, pos := "ref.go:165", after := #[⟨11, .data⟩, ⟨9, .guard⟩], guard := some (9, true) } : Go.Oper)) (v := ?v23) rfl (by kernel_rfl) (by kernel_rfl) (by kernel_rfl) (fun _ _ _ h => h) (Or.inl ⟨by rfl, ?hy23⟩) (by assumption) ?rest23
            case hy23 => (intro w hSw; (try dsimp only at hSw); go_simp; (try with_reducible rfl))
            (try simp only [Act.put, List.getElem_toArray, List.getElem_cons_zero, List.getElem_cons_succ, List.setIfInBounds_toArray, List.set_cons_zero, List.set_cons_succ])
            refine wpAnyH_take (i := 13) (oi := ({ dst := some 23, op := .indexAddr 42 (.tmp 20) (.tmp 22), type := 0, pos := "ref.go:165", after := #[⟨10, .data⟩, ⟨12, .data⟩, ⟨9, .guard⟩], guard := some (9, true) } : Go.Oper)) (v := ?v24) rfl (by kernel_rfl) (by kernel_rfl) (by kernel_rfl) (fun _ _ _ h => h) (Or.inl ⟨by rfl, ?hy24⟩) (by assumption) ?rest24
            case hy24 => (intro w hSw; (try dsimp only at hSw); go_simp; (try with_reducible rfl))
            (try simp only [Act.put, List.getElem_toArray, List.getElem_cons_zero, List.getElem_cons_succ, List.setIfInBounds_toArray, List.set_cons_zero, List.set_cons_succ])
            refine wpAnyH_take (i := 14) (oi := ({ dst := some 24, op := .load 25 (.tmp 23), type := 25, pos := "ref.go:165", after := #[⟨13, .data⟩, ⟨9, .guard⟩], guard := some (9, true) } : Go.Oper)) (v := ?v25) rfl (by kernel_rfl) (by kernel_rfl) (by kernel_rfl) (fun _ _ _ h => h) (Or.inl ⟨by rfl, ?hy25⟩) (by assumption) ?rest25
            case hy25 => (intro w hSw; (try dsimp only at hSw); go_simp; (try with_reducible rfl))
            (try simp only [Act.put, List.getElem_toArray, List.getElem_cons_zero, List.getElem_cons_succ, List.setIfInBounds_toArray, List.set_cons_zero, List.set_cons_succ])
            refine wpAnyH_take (i := 15) (oi := ({ dst := some 25, op := .move (.tmp 0), type := 42, pos := "ref.go:165", after := #[⟨9, .guard⟩], guard := some (9, true) } : Go.Oper)) (v := ?v26) rfl (by kernel_rfl) (by kernel_rfl) (by kernel_rfl) (fun _ _ _ h => h) (Or.inl ⟨by rfl, ?hy26⟩) (by assumption) ?rest26
            case hy26 => (intro w hSw; (try dsimp only at hSw); go_simp; (try with_reducible rfl))
            (try simp only [Act.put, List.getElem_toArray, List.getElem_cons_zero, List.getElem_cons_succ, List.setIfInBounds_toArray, List.set_cons_zero, List.set_cons_succ])
            refine wpAnyH_take (i := 16) (oi := ({ dst := some 26, op := .move (.tmp 3), type := 3, pos := "ref.go:165", after := #[⟨9, .guard⟩], guard := some (9, true) } : Go.Oper)) (v := ?v27) rfl (by kernel_rfl) (by kernel_rfl) (by kernel_rfl) (fun _ _ _ h => h) (Or.inl ⟨by rfl, ?hy27⟩) (by assumption) ?rest27
            case hy27 => (intro w hSw; (try dsimp only at hSw); go_simp; (try with_reducible rfl))
            (try simp only [Act.put, List.getElem_toArray, List.getElem_cons_zero, List.getElem_cons_succ, List.setIfInBounds_toArray, List.set_cons_zero, List.set_cons_succ])
            refine wpAnyH_take (i := 17) (oi := ({ dst := some 27, op := .indexAddr 42 (.tmp 25) (.tmp 26), type := 0, pos := "ref.go:165", after := #[⟨15, .data⟩, ⟨16, .data⟩, ⟨9, .guard⟩], guard := some (9, true) } : Go.Oper)) (v := ?v28) rfl (by kernel_rfl) (by kernel_rfl) (by kernel_rfl) (fun _ _ _ h => h) (Or.inl ⟨by rfl, ?hy28⟩) (by assumption) ?rest28
            case hy28 => (intro w hSw; (try dsimp only at hSw); go_simp; (try with_reducible rfl))
            (try simp only [Act.put, List.getElem_toArray, List.getElem_cons_zero, List.getElem_cons_succ, List.setIfInBounds_toArray, List.set_cons_zero, List.set_cons_succ])
            refine wpAnyH_take (i := 18) (oi := ({ dst := some 28, op := .load 25 (.tmp 27), type := 25, pos := "ref.go:165", after := #[⟨17, .data⟩, ⟨9, .guard⟩], guard := some (9, true) } : Go.Oper)) (v := ?v29) rfl (by kernel_rfl) (by kernel_rfl) (by kernel_rfl) (fun _ _ _ h => h) (Or.inl ⟨by rfl, ?hy29⟩) (by assumption) ?rest29
            case hy29 => (intro w hSw; (try dsimp only at hSw); go_simp; (try with_reducible rfl))
            (try simp only [Act.put, List.getElem_toArray, List.getElem_cons_zero, List.getElem_cons_succ, List.setIfInBounds_toArray, List.set_cons_zero, List.set_cons_succ])
            refine wpAnyH_ready (rs := [19]) (by kernel_rfl) (by simp) ?_
            refine AllReadyH.cons (o := ({ dst := some 29, op := .call { callee := .value (.func 27), args := #[.tmp 24, .tmp 28], argTypes := #[25, 25] }, type := 3, pos := "ref.go:165", after := #[⟨14, .data⟩, ⟨18, .data⟩, ⟨9, .chain⟩, ⟨9, .guard⟩], guard := some (9, true) } : Go.Oper)) rfl (fun K hK => ?_) AllReadyH.nil
            go_simp
            (first | (go_at_call 18; refine (rmay_any _ xs[k] _ (HY.out.ext (by with_reducible (repeat (first | exact Ext.rfl_ _ | assumption | refine Ext.drew ?_ | refine Ext.drewN ?_ _ | refine Ext.alloc ?_ _ | refine Ext.trans ?_ (by assumption)))))).mono ?_; rintro e w2 ⟨rfl, hw2⟩; rw [HM.out]) | (go_at_call 27; refine (rcompare_any _ _ xs[k - 1] xs[k] _ (HP.out.ext (by with_reducible (repeat (first | exact Ext.rfl_ _ | assumption | refine Ext.drew ?_ | refine Ext.drewN ?_ _ | refine Ext.alloc ?_ _ | refine Ext.trans ?_ (by assumption))))) (HY.out.ext (by with_reducible (repeat (first | exact Ext.rfl_ _ | assumption | refine Ext.drew ?_ | refine Ext.drewN ?_ _ | refine Ext.alloc ?_ _ | refine Ext.trans ?_ (by assumption)))))).mono ?_; rintro e w3 ⟨rfl, hw3⟩; have hc := HC.out))
            (try (go_wp2_with fail))
            refine hK.out _ _ (by (try dsimp only); exact ⟨keep4' (w := wr) (by with_reducible (repeat (first | exact Ext.rfl_ _ | assumption | refine Ext.drew ?_ | refine Ext.drewN ?_ _ | refine Ext.alloc ?_ _ | refine Ext.trans ?_ (by assumption)))) E0.out E1.out E2.out E3.out, keep4' (w := wr) (by with_reducible (repeat (first | exact Ext.rfl_ _ | assumption | refine Ext.drew ?_ | refine Ext.drewN ?_ _ | refine Ext.alloc ?_ _ | refine Ext.trans ?_ (by assumption)))) P0.out P1.out P2.out P3.out⟩) (fun hHeld => ?_)
            clear hK K
            (try simp only [Act.put, List.getElem_toArray, List.getElem_cons_zero, List.getElem_cons_succ, List.setIfInBounds_toArray, List.set_cons_zero, List.set_cons_succ])
            refine wpAnyH_take (i := 20) (oi := ({ dst := some 30, op := .binOp .geq 3 (.tmp 29) (.const (.int .i64 0)) 3, type := 4, pos := "ref.go:165", after := #[⟨19, .data⟩, ⟨9, .guard⟩], guard := some (9, true) } : Go.Oper)) (v := ?v30) rfl (by kernel_rfl) (by kernel_rfl) (by kernel_rfl) (fun _ _ _ h => h) (Or.inl ⟨by rfl, ?hy30⟩) (by assumption) ?rest30
            case hy30 => (intro w hSw; (try dsimp only at hSw); go_simp; (try with_reducible rfl))
            (try simp only [Act.put, List.getElem_toArray, List.getElem_cons_zero, List.getElem_cons_succ, List.setIfInBounds_toArray, List.set_cons_zero, List.set_cons_succ])
            refine wpAnyH_take (i := 21) (oi := ({ dst := some 31, op := .pick (.tmp 19) (.tmp 30) (.const (.bool false)), type := 4, pos := "ref.go:165", after := #[⟨9, .data⟩, ⟨20, .data⟩, ⟨6, .guard⟩], guard := some (6, false) } : Go.Oper)) (v := ?v31) rfl (by kernel_rfl) (by kernel_rfl) (by kernel_rfl) (fun _ _ _ h => h) (Or.inl ⟨by rfl, ?hy31⟩) (by assumption) ?rest31
            case hy31 => (intro w hSw; (try dsimp only at hSw); go_simp; (try with_reducible rfl))
            (try simp only [Act.put, List.getElem_toArray, List.getElem_cons_zero, List.getElem_cons_succ, List.setIfInBounds_toArray, List.set_cons_zero, List.set_cons_succ])
            refine wpAnyH_take (i := 22) (oi := ({ dst := some 32, op := .pick (.tmp 16) (.const (.bool true)) (.tmp 31), type := 4, pos := "ref.go:165", after := #[⟨6, .data⟩, ⟨21, .data⟩], guard := none } : Go.Oper)) (v := ?v32) rfl (by kernel_rfl) (by kernel_rfl) (by kernel_rfl) (fun _ _ _ h => h) (Or.inl ⟨by rfl, ?hy32⟩) (by assumption) ?rest32
            case hy32 => (intro w hSw; (try dsimp only at hSw); go_simp; (try with_reducible rfl))
            (try simp only [Act.put, List.getElem_toArray, List.getElem_cons_zero, List.getElem_cons_succ, List.setIfInBounds_toArray, List.set_cons_zero, List.set_cons_succ])
            refine wpAnyH_done (by kernel_rfl) ?_ _
            all_goals
              have x3 : Ext wr w3 := (by with_reducible (repeat (first | exact Ext.rfl_ _ | assumption | refine Ext.drew ?_ | refine Ext.drewN ?_ _ | refine Ext.alloc ?_ _ | refine Ext.trans ?_ (by assumption))))
              go_wp2
              go_ret
              exact ⟨ret_b HRES.out, HE.out.trans (by with_reducible (repeat (first | exact Ext.rfl_ _ | assumption | refine Ext.drew ?_ | refine Ext.drewN ?_ _ | refine Ext.alloc ?_ _ | refine Ext.trans ?_ (by assumption))))⟩
          · have hb : behO (xs.take k).getLast? xs[k] = true := by rw [HZ.out]; simp; omega
            have HG := Lib.hid (ris_go hx HR.out hb)
            have HC := Lib.hid (decide_eq_false hc)
            clear hb hc
            go_wp2
            refine wp_region_held_drew (S := (fun w' => (w'.cell? ⟨b, o + k * 4, none⟩ = some (.slice A1 n1 c1) ∧ w'.cell? ⟨b, o + k * 4 + 1, none⟩ = some (.int .i64 xs[k].seq) ∧ w'.cell? ⟨b, o + k * 4 + 2, none⟩ = some (.int .i64 xs[k].kind) ∧ w'.cell? ⟨b, o + k * 4 + 3, none⟩ = some (.slice A2 n2 c2)) ∧ (w'.cell? ⟨b, o + (k - 1) * 4, none⟩ = some (.slice A3 n3 c3) ∧ w'.cell? ⟨b, o + (k - 1) * 4 + 1, none⟩ = some (.int .i64 xs[k - 1].seq) ∧ w'.cell? ⟨b, o + (k - 1) * 4 + 2, none⟩ = some (.int .i64 xs[k - 1].kind) ∧ w'.cell? ⟨b, o + (k - 1) * 4 + 3, none⟩ = some (.slice A4 n4 c4)))) (by kernel_rfl) (by (try dsimp only); exact ⟨keep4' (w := wr) (by with_reducible (repeat (first | exact Ext.rfl_ _ | assumption | refine Ext.drew ?_ | refine Ext.drewN ?_ _ | refine Ext.alloc ?_ _ | refine Ext.trans ?_ (by assumption)))) E0.out E1.out E2.out E3.out, keep4' (w := wr) (by with_reducible (repeat (first | exact Ext.rfl_ _ | assumption | refine Ext.drew ?_ | refine Ext.drewN ?_ _ | refine Ext.alloc ?_ _ | refine Ext.trans ?_ (by assumption)))) P0.out P1.out P2.out P3.out⟩) (fun hHeld => ?_)
            refine wpAnyH_take (i := 0) (oi := ({ dst := some 10, op := .move (.tmp 0), type := 42, pos := "ref.go:165", after := #[], guard := none } : Go.Oper)) (v := ?v33) rfl (by kernel_rfl) (by kernel_rfl) (by kernel_rfl) (fun _ _ _ h => h) (Or.inl ⟨by rfl, ?hy33⟩) (by assumption) ?rest33
            case hy33 => (intro w hSw; (try dsimp only at hSw); go_simp; (try with_reducible rfl))
            (try simp only [Act.put, List.getElem_toArray, List.getElem_cons_zero, List.getElem_cons_succ, List.setIfInBounds_toArray, List.set_cons_zero, List.set_cons_succ])
            refine wpAnyH_take (i := 1) (oi := ({ dst := some 11, op := .move (.tmp 3), type := 3, pos := "ref.go:165", after := #[], guard := none } : Go.Oper)) (v := ?v34) rfl (by kernel_rfl) (by kernel_rfl) (by kernel_rfl) (fun _ _ _ h => h) (Or.inl ⟨by rfl, ?hy34⟩) (by assumption) ?rest34
            case hy34 => (intro w hSw; (try dsimp only at hSw); go_simp; (try with_reducible rfl))
            (try simp only [Act.put, List.getElem_toArray, List.getElem_cons_zero, List.getElem_cons_succ, List.setIfInBounds_toArray, List.set_cons_zero, List.set_cons_succ])
            refine wpAnyH_take (i := 2) (oi := ({ dst := some 12, op := .indexAddr 42 (.tmp 10) (.tmp 11), type := 0, pos := "ref.go:165", after := #[⟨0, .data⟩, ⟨1, .data⟩], guard := none } : Go.Oper)) (v := ?v35) rfl (by kernel_rfl) (by kernel_rfl) (by kernel_rfl) (fun _ _ _ h => h) (Or.inl ⟨by rfl, ?hy35⟩) (by assumption) ?rest35
            case hy35 => (intro w hSw; (try dsimp only at hSw); go_simp; (try with_reducible rfl))
            (try simp only [Act.put, List.getElem_toArray, List.getElem_cons_zero, List.getElem_cons_succ, List.setIfInBounds_toArray, List.set_cons_zero, List.set_cons_succ])
            refine wpAnyH_take (i := 3) (oi := ({ dst := some 13, op := .load 25 (.tmp 12), type := 25, pos := "ref.go:165", after := #[⟨2, .data⟩], guard := none } : Go.Oper)) (v := ?v36) rfl (by kernel_rfl) (by kernel_rfl) (by kernel_rfl) (fun _ _ _ h => h) (Or.inl ⟨by rfl, ?hy36⟩) (by assumption) ?rest36
            case hy36 => (intro w hSw; (try dsimp only at hSw); go_simp; (try with_reducible rfl))
            (try simp only [Act.put, List.getElem_toArray, List.getElem_cons_zero, List.getElem_cons_succ, List.setIfInBounds_toArray, List.set_cons_zero, List.set_cons_succ])
            refine wpAnyH_ready (rs := [4]) (by kernel_rfl) (by simp) ?_
            refine AllReadyH.cons (o := ({ dst := some 14, op := .call { callee := .value (.func 18), args := #[.tmp 13], argTypes := #[25] }, type := 4, pos := "ref.go:165", after := #[⟨3, .data⟩], guard := none } : Go.Oper)) rfl (fun K hK => ?_) AllReadyH.nil
            go_simp
            (first | (go_at_call 18; refine (rmay_any _ xs[k] _ (HY.out.ext (by with_reducible (repeat (first | exact Ext.rfl_ _ | assumption | refine Ext.drew ?_ | refine Ext.drewN ?_ _ | refine Ext.alloc ?_ _ | refine Ext.trans ?_ (by assumption)))))).mono ?_; rintro e w2 ⟨rfl, hw2⟩; rw [HM.out]) | (go_at_call 27; refine (rcompare_any _ _ xs[k - 1] xs[k] _ (HP.out.ext (by with_reducible (repeat (first | exact Ext.rfl_ _ | assumption | refine Ext.drew ?_ | refine Ext.drewN ?_ _ | refine Ext.alloc ?_ _ | refine Ext.trans ?_ (by assumption))))) (HY.out.ext (by with_reducible (repeat (first | exact Ext.rfl_ _ | assumption | refine Ext.drew ?_ | refine Ext.drewN ?_ _ | refine Ext.alloc ?_ _ | refine Ext.trans ?_ (by assumption)))))).mono ?_; rintro e w3 ⟨rfl, hw3⟩; have hc := HC.out))
            (try (go_wp2_with fail))
            refine hK.out _ _ (by (try dsimp only); exact ⟨keep4' (w := wr) (by with_reducible (repeat (first | exact Ext.rfl_ _ | assumption | refine Ext.drew ?_ | refine Ext.drewN ?_ _ | refine Ext.alloc ?_ _ | refine Ext.trans ?_ (by assumption)))) E0.out E1.out E2.out E3.out, keep4' (w := wr) (by with_reducible (repeat (first | exact Ext.rfl_ _ | assumption | refine Ext.drew ?_ | refine Ext.drewN ?_ _ | refine Ext.alloc ?_ _ | refine Ext.trans ?_ (by assumption)))) P0.out P1.out P2.out P3.out⟩) (fun hHeld => ?_)
            clear hK K
            (try simp only [Act.put, List.getElem_toArray, List.getElem_cons_zero, List.getElem_cons_succ, List.setIfInBounds_toArray, List.set_cons_zero, List.set_cons_succ])
            refine wpAnyH_take (i := 5) (oi := ({ dst := some 15, op := .unOp .not 4 (.tmp 14), type := 4, pos := "ref.go:165", after := #[⟨4, .data⟩], guard := none } : Go.Oper)) (v := ?v37) rfl (by kernel_rfl) (by kernel_rfl) (by kernel_rfl) (fun _ _ _ h => h) (Or.inl ⟨by rfl, ?hy37⟩) (by assumption) ?rest37
            case hy37 => (intro w hSw; (try dsimp only at hSw); go_simp; (try with_reducible rfl))
            (try simp only [Act.put, List.getElem_toArray, List.getElem_cons_zero, List.getElem_cons_succ, List.setIfInBounds_toArray, List.set_cons_zero, List.set_cons_succ])
            refine wpAnyH_take (i := 6) (oi := ({ dst := some 16, op := .move (.tmp 15), type := 4, pos := "ref.go:165", after := #[⟨5, .data⟩, ⟨4, .chain⟩], guard := none } : Go.Oper)) (v := ?v38) rfl (by kernel_rfl) (by kernel_rfl) (by kernel_rfl) (fun _ _ _ h => h) (Or.inl ⟨by rfl, ?hy38⟩) (by assumption) ?rest38
            case hy38 => (intro w hSw; (try dsimp only at hSw); go_simp; (try with_reducible rfl))
            (try simp only [Act.put, List.getElem_toArray, List.getElem_cons_zero, List.getElem_cons_succ, List.setIfInBounds_toArray, List.set_cons_zero, List.set_cons_succ])
            refine wpAnyH_take (i := 7) (oi := ({ dst := some 17, op := .move (.tmp 3), type := 3, pos := "ref.go:165", after := #[⟨6, .guard⟩], guard := some (6, false) } : Go.Oper)) (v := ?v39) rfl (by kernel_rfl) (by kernel_rfl) (by kernel_rfl) (fun _ _ _ h => h) (Or.inl ⟨by rfl, ?hy39⟩) (by assumption) ?rest39
            case hy39 => (intro w hSw; (try dsimp only at hSw); go_simp; (try with_reducible rfl))
            (try simp only [Act.put, List.getElem_toArray, List.getElem_cons_zero, List.getElem_cons_succ, List.setIfInBounds_toArray, List.set_cons_zero, List.set_cons_succ])
            refine wpAnyH_take (i := 8) (oi := ({ dst := some 18, op := .binOp .gtr 3 (.tmp 17) (.const (.int .i64 0)) 3, type := 4, pos := "ref.go:165", after := #[⟨7, .data⟩, ⟨6, .guard⟩], guard := some (6, false) } : Go.Oper)) (v := ?v40) rfl (by kernel_rfl) (by kernel_rfl) (by kernel_rfl) (fun _ _ _ h => h) (Or.inl ⟨by rfl, ?hy40⟩) (by assumption) ?rest40
            case hy40 => (intro w hSw; (try dsimp only at hSw); go_simp; (try with_reducible rfl))
            (try simp only [Act.put, List.getElem_toArray, List.getElem_cons_zero, List.getElem_cons_succ, List.setIfInBounds_toArray, List.set_cons_zero, List.set_cons_succ])
            refine wpAnyH_take (i := 9) (oi := ({ dst := some 19, op := .move (.tmp 18), type := 4, pos := "ref.go:165", after := #[⟨8, .data⟩, ⟨6, .chain⟩, ⟨6, .guard⟩], guard := some (6, false) } : Go.Oper)) (v := ?v41) rfl (by kernel_rfl) (by kernel_rfl) (by kernel_rfl) (fun _ _ _ h => h) (Or.inl ⟨by rfl, ?hy41⟩) (by assumption) ?rest41
            case hy41 => (intro w hSw; (try dsimp only at hSw); go_simp; (try with_reducible rfl))
            (try simp only [Act.put, List.getElem_toArray, List.getElem_cons_zero, List.getElem_cons_succ, List.setIfInBounds_toArray, List.set_cons_zero, List.set_cons_succ])
            refine wpAnyH_take (i := 10) (oi := ({ dst := some 20, op := .move (.tmp 0), type := 42, pos := "ref.go:165", after := #[⟨9, .guard⟩], guard := some (9, true) } : Go.Oper)) (v := ?v42) rfl (by kernel_rfl) (by kernel_rfl) (by kernel_rfl) (fun _ _ _ h => h) (Or.inl ⟨by rfl, ?hy42⟩) (by assumption) ?rest42
            case hy42 => (intro w hSw; (try dsimp only at hSw); go_simp; (try with_reducible rfl))
            (try simp only [Act.put, List.getElem_toArray, List.getElem_cons_zero, List.getElem_cons_succ, List.setIfInBounds_toArray, List.set_cons_zero, List.set_cons_succ])
            refine wpAnyH_take (i := 11) (oi := ({ dst := some 21, op := .move (.tmp 3), type := 3, pos := "ref.go:165", after := #[⟨9, .guard⟩], guard := some (9, true) } : Go.Oper)) (v := ?v43) rfl (by kernel_rfl) (by kernel_rfl) (by kernel_rfl) (fun _ _ _ h => h) (Or.inl ⟨by rfl, ?hy43⟩) (by assumption) ?rest43
            case hy43 => (intro w hSw; (try dsimp only at hSw); go_simp; (try with_reducible rfl))
            (try simp only [Act.put, List.getElem_toArray, List.getElem_cons_zero, List.getElem_cons_succ, List.setIfInBounds_toArray, List.set_cons_zero, List.set_cons_succ])
            refine wpAnyH_take (i := 12) (oi := ({ dst := some 22, op := .binOp .sub 3 (.tmp 21) (.const (.int .i64 1)) 3, type := 3, pos := "ref.go:165", after := #[⟨11, .data⟩, ⟨9, .guard⟩], guard := some (9, true) } : Go.Oper)) (v := ?v44) rfl (by kernel_rfl) (by kernel_rfl) (by kernel_rfl) (fun _ _ _ h => h) (Or.inl ⟨by rfl, ?hy44⟩) (by assumption) ?rest44
            case hy44 => (intro w hSw; (try dsimp only at hSw); go_simp; (try with_reducible rfl))
            (try simp only [Act.put, List.getElem_toArray, List.getElem_cons_zero, List.getElem_cons_succ, List.setIfInBounds_toArray, List.set_cons_zero, List.set_cons_succ])
            refine wpAnyH_take (i := 13) (oi := ({ dst := some 23, op := .indexAddr 42 (.tmp 20) (.tmp 22), type := 0, pos := "ref.go:165", after := #[⟨10, .data⟩, ⟨12, .data⟩, ⟨9, .guard⟩], guard := some (9, true) } : Go.Oper)) (v := ?v45) rfl (by kernel_rfl) (by kernel_rfl) (by kernel_rfl) (fun _ _ _ h => h) (Or.inl ⟨by rfl, ?hy45⟩) (by assumption) ?rest45
            case hy45 => (intro w hSw; (try dsimp only at hSw); go_simp; (try with_reducible rfl))
            (try simp only [Act.put, List.getElem_toArray, List.getElem_cons_zero, List.getElem_cons_succ, List.setIfInBounds_toArray, List.set_cons_zero, List.set_cons_succ])
            refine wpAnyH_take (i := 14) (oi := ({ dst := some 24, op := .load 25 (.tmp 23), type := 25, pos := "ref.go:165", after := #[⟨13, .data⟩, ⟨9, .guard⟩], guard := some (9, true) } : Go.Oper)) (v := ?v46) rfl (by kernel_rfl) (by kernel_rfl) (by kernel_rfl) (fun _ _ _ h => h) (Or.inl ⟨by rfl, ?hy46⟩) (by assumption) ?rest46
            case hy46 => (intro w hSw; (try dsimp only at hSw); go_simp; (try with_reducible rfl))
            (try simp only [Act.put, List.getElem_toArray, List.getElem_cons_zero, List.getElem_cons_succ, List.setIfInBounds_toArray, List.set_cons_zero, List.set_cons_succ])
            refine wpAnyH_take (i := 15) (oi := ({ dst := some 25, op := .move (.tmp 0), type := 42, pos := "ref.go:165", after := #[⟨9, .guard⟩], guard := some (9, true) } : Go.Oper)) (v := ?v47) rfl (by kernel_rfl) (by kernel_rfl) (by kernel_rfl) (fun _ _ _ h => h) (Or.inl ⟨by rfl, ?hy47⟩) (by assumption) ?rest47
            case hy47 => (intro w hSw; (try dsimp only at hSw); go_simp; (try with_reducible rfl))
            (try simp only [Act.put, List.getElem_toArray, List.getElem_cons_zero, List.getElem_cons_succ, List.setIfInBounds_toArray, List.set_cons_zero, List.set_cons_succ])
            refine wpAnyH_take (i := 16) (oi := ({ dst := some 26, op := .move (.tmp 3), type := 3, pos := "ref.go:165", after := #[⟨9, .guard⟩], guard := some (9, true) } : Go.Oper)) (v := ?v48) rfl (by kernel_rfl) (by kernel_rfl) (by kernel_rfl) (fun _ _ _ h => h) (Or.inl ⟨by rfl, ?hy48⟩) (by assumption) ?rest48
            case hy48 => (intro w hSw; (try dsimp only at hSw); go_simp; (try with_reducible rfl))
            (try simp only [Act.put, List.getElem_toArray, List.getElem_cons_zero, List.getElem_cons_succ, List.setIfInBounds_toArray, List.set_cons_zero, List.set_cons_succ])
            refine wpAnyH_take (i := 17) (oi := ({ dst := some 27, op := .indexAddr 42 (.tmp 25) (.tmp 26), type := 0, pos := "ref.go:165", after := #[⟨15, .data⟩, ⟨16, .data⟩, ⟨9, .guard⟩], guard := some (9, true) } : Go.Oper)) (v := ?v49) rfl (by kernel_rfl) (by kernel_rfl) (by kernel_rfl) (fun _ _ _ h => h) (Or.inl ⟨by rfl, ?hy49⟩) (by assumption) ?rest49
            case hy49 => (intro w hSw; (try dsimp only at hSw); go_simp; (try with_reducible rfl))
            (try simp only [Act.put, List.getElem_toArray, List.getElem_cons_zero, List.getElem_cons_succ, List.setIfInBounds_toArray, List.set_cons_zero, List.set_cons_succ])
            refine wpAnyH_take (i := 18) (oi := ({ dst := some 28, op := .load 25 (.tmp 27), type := 25, pos := "ref.go:165", after := #[⟨17, .data⟩, ⟨9, .guard⟩], guard := some (9, true) } : Go.Oper)) (v := ?v50) rfl (by kernel_rfl) (by kernel_rfl) (by kernel_rfl) (fun _ _ _ h => h) (Or.inl ⟨by rfl, ?hy50⟩) (by assumption) ?rest50
            case hy50 => (intro w hSw; (try dsimp only at hSw); go_simp; (try with_reducible rfl))
            (try simp only [Act.put, List.getElem_toArray, List.getElem_cons_zero, List.getElem_cons_succ, List.setIfInBounds_toArray, List.set_cons_zero, List.set_cons_succ])
            refine wpAnyH_ready (rs := [19]) (by kernel_rfl) (by simp) ?_
            refine AllReadyH.cons (o := ({ dst := some 29, op := .call { callee := .value (.func 27), args := #[.tmp 24, .tmp 28], argTypes := #[25, 25] }, type := 3, pos := "ref.go:165", after := #[⟨14, .data⟩, ⟨18, .data⟩, ⟨9, .chain⟩, ⟨9, .guard⟩], guard := some (9, true) } : Go.Oper)) rfl (fun K hK => ?_) AllReadyH.nil
            go_simp
            (first | (go_at_call 18; refine (rmay_any _ xs[k] _ (HY.out.ext (by with_reducible (repeat (first | exact Ext.rfl_ _ | assumption | refine Ext.drew ?_ | refine Ext.drewN ?_ _ | refine Ext.alloc ?_ _ | refine Ext.trans ?_ (by assumption)))))).mono ?_; rintro e w2 ⟨rfl, hw2⟩; rw [HM.out]) | (go_at_call 27; refine (rcompare_any _ _ xs[k - 1] xs[k] _ (HP.out.ext (by with_reducible (repeat (first | exact Ext.rfl_ _ | assumption | refine Ext.drew ?_ | refine Ext.drewN ?_ _ | refine Ext.alloc ?_ _ | refine Ext.trans ?_ (by assumption))))) (HY.out.ext (by with_reducible (repeat (first | exact Ext.rfl_ _ | assumption | refine Ext.drew ?_ | refine Ext.drewN ?_ _ | refine Ext.alloc ?_ _ | refine Ext.trans ?_ (by assumption)))))).mono ?_; rintro e w3 ⟨rfl, hw3⟩; have hc := HC.out))
            (try (go_wp2_with fail))
            refine hK.out _ _ (by (try dsimp only); exact ⟨keep4' (w := wr) (by with_reducible (repeat (first | exact Ext.rfl_ _ | assumption | refine Ext.drew ?_ | refine Ext.drewN ?_ _ | refine Ext.alloc ?_ _ | refine Ext.trans ?_ (by assumption)))) E0.out E1.out E2.out E3.out, keep4' (w := wr) (by with_reducible (repeat (first | exact Ext.rfl_ _ | assumption | refine Ext.drew ?_ | refine Ext.drewN ?_ _ | refine Ext.alloc ?_ _ | refine Ext.trans ?_ (by assumption)))) P0.out P1.out P2.out P3.out⟩) (fun hHeld => ?_)
            clear hK K
            (try simp only [Act.put, List.getElem_toArray, List.getElem_cons_zero, List.getElem_cons_succ, List.setIfInBounds_toArray, List.set_cons_zero, List.set_cons_succ])
            refine wpAnyH_take (i := 20) (oi := ({ dst := some 30, op := .binOp .geq 3 (.tmp 29) (.const (.int .i64 0)) 3, type := 4, pos := "ref.go:165", after := #[⟨19, .data⟩, ⟨9, .guard⟩], guard := some (9, true) } : Go.Oper)) (v := ?v51) rfl (by kernel_rfl) (by kernel_rfl) (by kernel_rfl) (fun _ _ _ h => h) (Or.inl ⟨by rfl, ?hy51⟩) (by assumption) ?rest51
            case hy51 => (intro w hSw; (try dsimp only at hSw); go_simp; (try with_reducible rfl))
            (try simp only [Act.put, List.getElem_toArray, List.getElem_cons_zero, List.getElem_cons_succ, List.setIfInBounds_toArray, List.set_cons_zero, List.set_cons_succ])
            refine wpAnyH_take (i := 21) (oi := ({ dst := some 31, op := .pick (.tmp 19) (.tmp 30) (.const (.bool false)), type := 4, pos := "ref.go:165", after := #[⟨9, .data⟩, ⟨20, .data⟩, ⟨6, .guard⟩], guard := some (6, false) } : Go.Oper)) (v := ?v52) rfl (by kernel_rfl) (by kernel_rfl) (by kernel_rfl) (fun _ _ _ h => h) (Or.inl ⟨by rfl, ?hy52⟩) (by assumption) ?rest52
            case hy52 => (intro w hSw; (try dsimp only at hSw); go_simp; (try with_reducible rfl))
            (try simp only [Act.put, List.getElem_toArray, List.getElem_cons_zero, List.getElem_cons_succ, List.setIfInBounds_toArray, List.set_cons_zero, List.set_cons_succ])
            refine wpAnyH_take (i := 22) (oi := ({ dst := some 32, op := .pick (.tmp 16) (.const (.bool true)) (.tmp 31), type := 4, pos := "ref.go:165", after := #[⟨6, .data⟩, ⟨21, .data⟩], guard := none } : Go.Oper)) (v := ?v53) rfl (by kernel_rfl) (by kernel_rfl) (by kernel_rfl) (fun _ _ _ h => h) (Or.inl ⟨by rfl, ?hy53⟩) (by assumption) ?rest53
            case hy53 => (intro w hSw; (try dsimp only at hSw); go_simp; (try with_reducible rfl))
            (try simp only [Act.put, List.getElem_toArray, List.getElem_cons_zero, List.getElem_cons_succ, List.setIfInBounds_toArray, List.set_cons_zero, List.set_cons_succ])
            refine wpAnyH_done (by kernel_rfl) ?_ _
            all_goals
              have x3 : Ext wr w3 := (by with_reducible (repeat (first | exact Ext.rfl_ _ | assumption | refine Ext.drew ?_ | refine Ext.drewN ?_ _ | refine Ext.alloc ?_ _ | refine Ext.trans ?_ (by assumption))))
              go_wp2
              go_roundw
              case rel => exact ⟨k + 1, by omega, by go_num, HG, HE.out.trans x3⟩
              case measure => simp [intOf]; omega
      · have hm' : mayE xs[k] = false := by simpa using hm
        have HM := Lib.hid hm'
        have hb : ¬ behO (xs.take k).getLast? xs[k] = true := by unfold behO; rw [hm']; simp
        have HN := Lib.hid (ris_end hx HR.out hb)
        have hres : false = riseB xs := by
          unfold riseB
          rw [HN.out, List.length_take]
          symm
          apply decide_eq_false
          omega
        have HRES := Lib.hid hres
        clear hm hm' hb hres
        go_wp2
        refine wp_region_held_drew (S := (fun w' => w'.cell? ⟨b, o + k * 4, none⟩ = some (.slice A1 n1 c1) ∧ w'.cell? ⟨b, o + k * 4 + 1, none⟩ = some (.int .i64 xs[k].seq) ∧ w'.cell? ⟨b, o + k * 4 + 2, none⟩ = some (.int .i64 xs[k].kind) ∧ w'.cell? ⟨b, o + k * 4 + 3, none⟩ = some (.slice A2 n2 c2))) (by kernel_rfl) (by (try dsimp only); exact keep4' (w := wr) (by with_reducible (repeat (first | exact Ext.rfl_ _ | assumption | refine Ext.drew ?_ | refine Ext.drewN ?_ _ | refine Ext.alloc ?_ _ | refine Ext.trans ?_ (by assumption)))) E0.out E1.out E2.out E3.out) (fun hHeld => ?_)
        refine wpAnyH_take (i := 0) (oi := ({ dst := some 10, op := .move (.tmp 0), type := 42, pos := "ref.go:165", after := #[], guard := none } : Go.Oper)) (v := ?v54) rfl (by kernel_rfl) (by kernel_rfl) (by kernel_rfl) (fun _ _ _ h => h) (Or.inl ⟨by rfl, ?hy54⟩) (by assumption) ?rest54
        case hy54 => (intro w hSw; (try dsimp only at hSw); go_simp; (try with_reducible rfl))
        (try simp only [Act.put, List.getElem_toArray, List.getElem_cons_zero, List.getElem_cons_succ, List.setIfInBounds_toArray, List.set_cons_zero, List.set_cons_succ])
        refine wpAnyH_take (i := 1) (oi := ({ dst := some 11, op := .move (.tmp 3), type := 3, pos := "ref.go:165", after := #[], guard := none } : Go.Oper)) (v := ?v55) rfl (by kernel_rfl) (by kernel_rfl) (by kernel_rfl) (fun _ _ _ h => h) (Or.inl ⟨by rfl, ?hy55⟩) (by assumption) ?rest55
        case hy55 => (intro w hSw; (try dsimp only at hSw); go_simp; (try with_reducible rfl))
        (try simp only [Act.put, List.getElem_toArray, List.getElem_cons_zero, List.getElem_cons_succ, List.setIfInBounds_toArray, List.set_cons_zero, List.set_cons_succ])
        refine wpAnyH_take (i := 2) (oi := ({ dst := some 12, op := .indexAddr 42 (.tmp 10) (.tmp 11), type := 0, pos := "ref.go:165", after := #[⟨0, .data⟩, ⟨1, .data⟩], guard := none } : Go.Oper)) (v := ?v56) rfl (by kernel_rfl) (by kernel_rfl) (by kernel_rfl) (fun _ _ _ h => h) (Or.inl ⟨by rfl, ?hy56⟩) (by assumption) ?rest56
        case hy56 => (intro w hSw; (try dsimp only at hSw); go_simp; (try with_reducible rfl))
        (try simp only [Act.put, List.getElem_toArray, List.getElem_cons_zero, List.getElem_cons_succ, List.setIfInBounds_toArray, List.set_cons_zero, List.set_cons_succ])
        refine wpAnyH_take (i := 3) (oi := ({ dst := some 13, op := .load 25 (.tmp 12), type := 25, pos := "ref.go:165", after := #[⟨2, .data⟩], guard := none } : Go.Oper)) (v := ?v57) rfl (by kernel_rfl) (by kernel_rfl) (by kernel_rfl) (fun _ _ _ h => h) (Or.inl ⟨by rfl, ?hy57⟩) (by assumption) ?rest57
        case hy57 => (intro w hSw; (try dsimp only at hSw); go_simp; (try with_reducible rfl))
        (try simp only [Act.put, List.getElem_toArray, List.getElem_cons_zero, List.getElem_cons_succ, List.setIfInBounds_toArray, List.set_cons_zero, List.set_cons_succ])
        refine wpAnyH_ready (rs := [4]) (by kernel_rfl) (by simp) ?_
        refine AllReadyH.cons (o := ({ dst := some 14, op := .call { callee := .value (.func 18), args := #[.tmp 13], argTypes := #[25] }, type := 4, pos := "ref.go:165", after := #[⟨3, .data⟩], guard := none } : Go.Oper)) rfl (fun K hK => ?_) AllReadyH.nil
        go_simp
        refine (rmay_any _ xs[k] _ (HY.out.ext (by with_reducible (repeat (first | exact Ext.rfl_ _ | assumption | refine Ext.drew ?_ | refine Ext.drewN ?_ _ | refine Ext.alloc ?_ _ | refine Ext.trans ?_ (by assumption)))))).mono ?_; rintro e w2 ⟨rfl, hw2⟩; rw [HM.out]
        (try (go_wp2_with fail))
        refine hK.out _ _ (by (try dsimp only); exact keep4' (w := wr) (by with_reducible (repeat (first | exact Ext.rfl_ _ | assumption | refine Ext.drew ?_ | refine Ext.drewN ?_ _ | refine Ext.alloc ?_ _ | refine Ext.trans ?_ (by assumption)))) E0.out E1.out E2.out E3.out) (fun hHeld => ?_)
        clear hK K
        (try simp only [Act.put, List.getElem_toArray, List.getElem_cons_zero, List.getElem_cons_succ, List.setIfInBounds_toArray, List.set_cons_zero, List.set_cons_succ])
        refine wpAnyH_take (i := 5) (oi := ({ dst := some 15, op := .unOp .not 4 (.tmp 14), type := 4, pos := "ref.go:165", after := #[⟨4, .data⟩], guard := none } : Go.Oper)) (v := ?v58) rfl (by kernel_rfl) (by kernel_rfl) (by kernel_rfl) (fun _ _ _ h => h) (Or.inl ⟨by rfl, ?hy58⟩) (by assumption) ?rest58
        case hy58 => (intro w hSw; (try dsimp only at hSw); go_simp; (try with_reducible rfl))
        (try simp only [Act.put, List.getElem_toArray, List.getElem_cons_zero, List.getElem_cons_succ, List.setIfInBounds_toArray, List.set_cons_zero, List.set_cons_succ])
        refine wpAnyH_take (i := 6) (oi := ({ dst := some 16, op := .move (.tmp 15), type := 4, pos := "ref.go:165", after := #[⟨5, .data⟩, ⟨4, .chain⟩], guard := none } : Go.Oper)) (v := ?v59) rfl (by kernel_rfl) (by kernel_rfl) (by kernel_rfl) (fun _ _ _ h => h) (Or.inl ⟨by rfl, ?hy59⟩) (by assumption) ?rest59
        case hy59 => (intro w hSw; (try dsimp only at hSw); go_simp; (try with_reducible rfl))
        (try simp only [Act.put, List.getElem_toArray, List.getElem_cons_zero, List.getElem_cons_succ, List.setIfInBounds_toArray, List.set_cons_zero, List.set_cons_succ])
        refine wpAnyH_take (i := 7) (oi := ({ dst := some 17, op := .move (.tmp 3), type := 3, pos := "ref.go:165", after := #[⟨6, .guard⟩], guard := some (6, false) } : Go.Oper)) (v := undef) rfl (by kernel_rfl) (by kernel_rfl) (by kernel_rfl) (fun _ _ _ h => h) (Or.inr ⟨by rfl, rfl⟩) (by assumption) ?_
        (try simp only [Act.put, List.getElem_toArray, List.getElem_cons_zero, List.getElem_cons_succ, List.setIfInBounds_toArray, List.set_cons_zero, List.set_cons_succ])
        refine wpAnyH_take (i := 8) (oi := ({ dst := some 18, op := .binOp .gtr 3 (.tmp 17) (.const (.int .i64 0)) 3, type := 4, pos := "ref.go:165", after := #[⟨7, .data⟩, ⟨6, .guard⟩], guard := some (6, false) } : Go.Oper)) (v := undef) rfl (by kernel_rfl) (by kernel_rfl) (by kernel_rfl) (fun _ _ _ h => h) (Or.inr ⟨by rfl, rfl⟩) (by assumption) ?_
        (try simp only [Act.put, List.getElem_toArray, List.getElem_cons_zero, List.getElem_cons_succ, List.setIfInBounds_toArray, List.set_cons_zero, List.set_cons_succ])
        refine wpAnyH_take (i := 9) (oi := ({ dst := some 19, op := .move (.tmp 18), type := 4, pos := "ref.go:165", after := #[⟨8, .data⟩, ⟨6, .chain⟩, ⟨6, .guard⟩], guard := some (6, false) } : Go.Oper)) (v := undef) rfl (by kernel_rfl) (by kernel_rfl) (by kernel_rfl) (fun _ _ _ h => h) (Or.inr ⟨by rfl, rfl⟩) (by assumption) ?_
        (try simp only [Act.put, List.getElem_toArray, List.getElem_cons_zero, List.getElem_cons_succ, List.setIfInBounds_toArray, List.set_cons_zero, List.set_cons_succ])
        refine wpAnyH_take (i := 10) (oi := ({ dst := some 20, op := .move (.tmp 0), type := 42, pos := "ref.go:165", after := #[⟨9, .guard⟩], guard := some (9, true) } : Go.Oper)) (v := undef) rfl (by kernel_rfl) (by kernel_rfl) (by kernel_rfl) (fun _ _ _ h => h) (Or.inr ⟨by rfl, rfl⟩) (by assumption) ?_
        (try simp only [Act.put, List.getElem_toArray, List.getElem_cons_zero, List.getElem_cons_succ, List.setIfInBounds_toArray, List.set_cons_zero, List.set_cons_succ])
        refine wpAnyH_take (i := 11) (oi := ({ dst := some 21, op := .move (.tmp 3), type := 3, pos := "ref.go:165", after := #[⟨9, .guard⟩], guard := some (9, true) } : Go.Oper)) (v := undef) rfl (by kernel_rfl) (by kernel_rfl) (by kernel_rfl) (fun _ _ _ h => h) (Or.inr ⟨by rfl, rfl⟩) (by assumption) ?_
        (try simp only [Act.put, List.getElem_toArray, List.getElem_cons_zero, List.getElem_cons_succ, List.setIfInBounds_toArray, List.set_cons_zero, List.set_cons_succ])
        refine wpAnyH_take (i := 12) (oi := ({ dst := some 22, op := .binOp .sub 3 (.tmp 21) (.const (.int .i64 1)) 3, type := 3, pos := "ref.go:165", after := #[⟨11, .data⟩, ⟨9, .guard⟩], guard := some (9, true) } : Go.Oper)) (v := undef) rfl (by kernel_rfl) (by kernel_rfl) (by kernel_rfl) (fun _ _ _ h => h) (Or.inr ⟨by rfl, rfl⟩) (by assumption) ?_
        (try simp only [Act.put, List.getElem_toArray, List.getElem_cons_zero, List.getElem_cons_succ, List.setIfInBounds_toArray, List.set_cons_zero, List.set_cons_succ])
        refine wpAnyH_take (i := 13) (oi := ({ dst := some 23, op := .indexAddr 42 (.tmp 20) (.tmp 22), type := 0, pos := "ref.go:165", after := #[⟨10, .data⟩, ⟨12, .data⟩, ⟨9, .guard⟩], guard := some (9, true) } : Go.Oper)) (v := undef) rfl (by kernel_rfl) (by kernel_rfl) (by kernel_rfl) (fun _ _ _ h => h) (Or.inr ⟨by rfl, rfl⟩) (by assumption) ?_
        (try simp only [Act.put, List.getElem_toArray, List.getElem_cons_zero, List.getElem_cons_succ, List.setIfInBounds_toArray, List.set_cons_zero, List.set_cons_succ])
        refine wpAnyH_take (i := 14) (oi := ({ dst := some 24, op := .load 25 (.tmp 23), type := 25, pos := "ref.go:165", after := #[⟨13, .data⟩, ⟨9, .guard⟩], guard := some (9, true) } : Go.Oper)) (v := undef) rfl (by kernel_rfl) (by kernel_rfl) (by kernel_rfl) (fun _ _ _ h => h) (Or.inr ⟨by rfl, rfl⟩) (by assumption) ?_
        (try simp only [Act.put, List.getElem_toArray, List.getElem_cons_zero, List.getElem_cons_succ, List.setIfInBounds_toArray, List.set_cons_zero, List.set_cons_succ])
        refine wpAnyH_take (i := 15) (oi := ({ dst := some 25, op := .move (.tmp 0), type := 42, pos := "ref.go:165", after := #[⟨9, .guard⟩], guard := some (9, true) } : Go.Oper)) (v := undef) rfl (by kernel_rfl) (by kernel_rfl) (by kernel_rfl) (fun _ _ _ h => h) (Or.inr ⟨by rfl, rfl⟩) (by assumption) ?_
        (try simp only [Act.put, List.getElem_toArray, List.getElem_cons_zero, List.getElem_cons_succ, List.setIfInBounds_toArray, List.set_cons_zero, List.set_cons_succ])
        refine wpAnyH_take (i := 16) (oi := ({ dst := some 26, op := .move (.tmp 3), type := 3, pos := "ref.go:165", after := #[⟨9, .guard⟩], guard := some (9, true) } : Go.Oper)) (v := undef) rfl (by kernel_rfl) (by kernel_rfl) (by kernel_rfl) (fun _ _ _ h => h) (Or.inr ⟨by rfl, rfl⟩) (by assumption) ?_
        (try simp only [Act.put, List.getElem_toArray, List.getElem_cons_zero, List.getElem_cons_succ, List.setIfInBounds_toArray, List.set_cons_zero, List.set_cons_succ])
        refine wpAnyH_take (i := 17) (oi := ({ dst := some 27, op := .indexAddr 42 (.tmp 25) (.tmp 26), type := 0, pos := "ref.go:165", after := #[⟨15, .data⟩, ⟨16, .data⟩, ⟨9, .guard⟩], guard := some (9, true) } : Go.Oper)) (v := undef) rfl (by kernel_rfl) (by kernel_rfl) (by kernel_rfl) (fun _ _ _ h => h) (Or.inr ⟨by rfl, rfl⟩) (by assumption) ?_
        (try simp only [Act.put, List.getElem_toArray, List.getElem_cons_zero, List.getElem_cons_succ, List.setIfInBounds_toArray, List.set_cons_zero, List.set_cons_succ])
        refine wpAnyH_take (i := 18) (oi := ({ dst := some 28, op := .load 25 (.tmp 27), type := 25, pos := "ref.go:165", after := #[⟨17, .data⟩, ⟨9, .guard⟩], guard := some (9, true) } : Go.Oper)) (v := undef) rfl (by kernel_rfl) (by kernel_rfl) (by kernel_rfl) (fun _ _ _ h => h) (Or.inr ⟨by rfl, rfl⟩) (by assumption) ?_
        (try simp only [Act.put, List.getElem_toArray, List.getElem_cons_zero, List.getElem_cons_succ, List.setIfInBounds_toArray, List.set_cons_zero, List.set_cons_succ])
        refine wpAnyH_take (i := 19) (oi := ({ dst := some 29, op := .call { callee := .value (.func 27), args := #[.tmp 24, .tmp 28], argTypes := #[25, 25] }, type := 3, pos := "ref.go:165", after := #[⟨14, .data⟩, ⟨18, .data⟩, ⟨9, .chain⟩, ⟨9, .guard⟩], guard := some (9, true) } : Go.Oper)) (v := undef) rfl (by kernel_rfl) (by kernel_rfl) (by kernel_rfl) (fun _ _ _ h => h) (Or.inr ⟨by rfl, rfl⟩) (by assumption) ?_
        (try simp only [Act.put, List.getElem_toArray, List.getElem_cons_zero, List.getElem_cons_succ, List.setIfInBounds_toArray, List.set_cons_zero, List.set_cons_succ])
        refine wpAnyH_take (i := 20) (oi := ({ dst := some 30, op := .binOp .geq 3 (.tmp 29) (.const (.int .i64 0)) 3, type := 4, pos := "ref.go:165", after := #[⟨19, .data⟩, ⟨9, .guard⟩], guard := some (9, true) } : Go.Oper)) (v := undef) rfl (by kernel_rfl) (by kernel_rfl) (by kernel_rfl) (fun _ _ _ h => h) (Or.inr ⟨by rfl, rfl⟩) (by assumption) ?_
        (try simp only [Act.put, List.getElem_toArray, List.getElem_cons_zero, List.getElem_cons_succ, List.setIfInBounds_toArray, List.set_cons_zero, List.set_cons_succ])
        refine wpAnyH_take (i := 21) (oi := ({ dst := some 31, op := .pick (.tmp 19) (.tmp 30) (.const (.bool false)), type := 4, pos := "ref.go:165", after := #[⟨9, .data⟩, ⟨20, .data⟩, ⟨6, .guard⟩], guard := some (6, false) } : Go.Oper)) (v := undef) rfl (by kernel_rfl) (by kernel_rfl) (by kernel_rfl) (fun _ _ _ h => h) (Or.inr ⟨by rfl, rfl⟩) (by assumption) ?_
        (try simp only [Act.put, List.getElem_toArray, List.getElem_cons_zero, List.getElem_cons_succ, List.setIfInBounds_toArray, List.set_cons_zero, List.set_cons_succ])
        refine wpAnyH_take (i := 22) (oi := ({ dst := some 32, op := .pick (.tmp 16) (.const (.bool true)) (.tmp 31), type := 4, pos := "ref.go:165", after := #[⟨6, .data⟩, ⟨21, .data⟩], guard := none } : Go.Oper)) (v := ?v60) rfl (by kernel_rfl) (by kernel_rfl) (by kernel_rfl) (fun _ _ _ h => h) (Or.inl ⟨by rfl, ?hy60⟩) (by assumption) ?rest60
        case hy60 => (intro w hSw; (try dsimp only at hSw); go_simp; (try with_reducible rfl))
        (try simp only [Act.put, List.getElem_toArray, List.getElem_cons_zero, List.getElem_cons_succ, List.setIfInBounds_toArray, List.set_cons_zero, List.set_cons_succ])
        refine wpAnyH_done (by kernel_rfl) ?_ _
        all_goals
          go_wp2
          go_ret
          exact ⟨ret_b HRES.out, HE.out.trans (by with_reducible (repeat (first | exact Ext.rfl_ _ | assumption | refine Ext.drew ?_ | refine Ext.drewN ?_ _ | refine Ext.alloc ?_ _ | refine Ext.trans ?_ (by assumption))))⟩
    · obtain rfl : k = n := by omega
      have hres : true = riseB xs := by
        unfold riseB
        rw [HR.out, List.take_of_length_le (by omega), List.drop_eq_nil_of_le (by omega)]
        simp [ris]
      have HRES := Lib.hid hres
      have HE := Lib.hid hE
      clear hres hE
      go_wp2
      go_ret
      exact ⟨ret_b HRES.out, HE.out⟩


theorem frE_cells {w : World} {base : Nat} {v : Value} {x : Ent} (h : FrE w base v x) : ∃ A n c B m d, v = .agg #[.slice A n c, .int .i64 x.seq, .int .i64 x.kind, .slice B m d] ∧ FrE w base (.agg (cellsE ⟨A, n, c, B, m, d⟩ x).toArray) x := by
  have h' := h
  obtain ⟨A, n, c, B, m, d, rfl, _⟩ := h
  exact ⟨A, n, c, B, m, d, rfl, h'⟩
set_option maxRecDepth 100000 in
set_option maxHeartbeats 2000000 in
theorem rcopyL_any (A : Option Addr) (n c : Nat) (xs : List Ent) (w : World) (hl : RdL w A n xs) (hnc : n ≤ c) (hn : n ≤ 1000000) :
    Calls Try.prog 43 #[.slice A n c] w fun e w' => ∃ v', e = .returned v' ∧ OwnF w' w.heap.size v' xs ∧ Ext w w' := by
  have HL := Lib.hid hl
  have hxl := hl.1
  clear hl
  go_enter Try.func43, Try.ntmps43
  go_wp2
  go_loopw [3, 4] (fun v i wr => ∃ k : Nat, k ≤ n ∧ i = .int .i64 k ∧ Ext w wr ∧ OwnF wr w.heap.size v (xs.take k)) (fun _ i _ => n - (intOf i).toNat)
  case atStart => exact ⟨0, Nat.zero_le _, rfl, Ext.rfl_ _, OwnF.nil _ _⟩
  case round =>
    obtain ⟨k, hk, rfl, hX, hF⟩ := hrel
    have HX := Lib.hid hX
    have HF := Lib.hid hF
    clear hX hF
    by_cases hlt : k < n
    · have hltI : (k : Int) < (n : Int) := by omega
      have hncI : (n : Int) ≤ (c : Int) := by omega
      obtain ⟨b, o, A1, n1, c1, A2, n2, c2, x, rfl, hx, ⟨d0, d1, d2, d3⟩, hry⟩ := HL.out.at_ k hlt
      have e0 := HX.out.keeps _ _ _ d0
      have e1 := HX.out.keeps _ _ _ d1
      have e2 := HX.out.keeps _ _ _ d2
      have e3 := HX.out.keeps _ _ _ d3
      have HR := Lib.hid (hry.ext HX.out)
      have HTK : Hid (xs.take (k + 1) = xs.take k ++ [x]) := Lib.hid (by rw [List.take_add_one, hx]; rfl)
      clear hry d0 d1 d2 d3 hx
      go_wp2_with fail
      refine (rcopy_any _ x _ HR.out).mono ?_
      rintro e w1 ⟨v1, rfl, hf1, hw1⟩
      obtain ⟨A5, n5, c5, B5, m5, d5, rfl, hfe⟩ := frE_cells hf1
      have HFE := Lib.hid (hfe.low (Ext.size HX.out))
      have X1 := Lib.hid (HX.out.trans hw1)
      have HF1 := Lib.hid (HF.out.ext hw1)
      clear hf1 hfe hw1 e0 e1 e2 e3
      go_wp2_with (first | (at_builtin; refine wp_appF rfl _ _ rfl w.heap.size _ (xs.take k) rfl w1 25 ⟨A5, n5, c5, B5, m5, d5⟩ x rfl HF1.out HFE.out _ rfl rfl (by rw [List.length_take]; omega) (Ext.size X1.out) ?_; intro v2 w2 o2 k2 g2; have Z2 := Lib.hid (Ext.grown (X1.out.trans (Ext.alloc (Ext.rfl_ w1) _)) g2 (fun q hq => (HF1.out.lt q hq).1)); have O2 := Lib.hid o2; clear o2 k2 g2))
      go_roundw
      case rel =>
        refine ⟨k + 1, by omega, by go_num, Z2.out, ?_⟩
        rw [HTK.out]; exact O2.out
      case measure => simp [intOf]; omega
    · obtain rfl : k = n := by omega
      have htk : xs.take k = xs := List.take_of_length_le (by omega)
      rw [htk] at HF
      go_wp2
      go_ret
      exact ⟨_, rfl, HF.out, HX.out⟩

end Go.Proofs.Ytpohmoakilioiaa
