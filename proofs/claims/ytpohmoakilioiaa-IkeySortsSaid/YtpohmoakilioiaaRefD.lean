/- Contract of the reference's Latest. Conditions: the list reads. -/
import Derived.Test.YtpohmoakilioiaaRefC
import Derived.Test.YtpohmoakilioiaaRefA
import Derived.Test.YtpohmoakilioiaaLate
namespace Go.Proofs.Ytpohmoakilioiaa
set_option linter.unusedSimpArgs false
set_option linter.unusedVariables false
set_option maxRecDepth 100000
open Go.RowKit

theorem lky_empty {s : Int} {p : Bs} {pre : List Ent} (h : latL s p pre = []) : lky s p pre = p := by
  induction pre generalizing p with
  | nil => rfl
  | cons x xs ih =>
    simp only [latL, lky] at *
    split at h
    · rename_i hc; rw [if_pos hc]; exact ih h
    · cases h
theorem lky_last {s : Int} {p : Bs} {pre : List Ent} {y : Ent} (h : (latL s p pre).getLast? = some y) : lky s p pre = y.key := by
  induction pre generalizing p with
  | nil => cases h
  | cons x xs ih =>
    simp only [latL, lky] at *
    split at h
    · rename_i hc; rw [if_pos hc]; exact ih h
    · rename_i hc; rw [if_neg hc]
      by_cases he : latL s x.key xs = []
      · rw [he] at h; simp at h; subst h; exact lky_empty he
      · rw [List.getLast?_cons] at h
        cases hq : (latL s x.key xs).getLast? with
        | none => exact absurd (List.getLast?_eq_none_iff.1 hq) he
        | some z => rw [hq] at h; simp at h; subst h; exact ih hq
theorem latL_le (s : Int) (p : Bs) (pre : List Ent) : (latL s p pre).length ≤ pre.length := by
  induction pre generalizing p with
  | nil => exact Nat.le_refl _
  | cons x xs ih =>
    simp only [latL]; split
    · exact Nat.le_trans (ih _) (by simp)
    · simp; exact ih _

set_option maxRecDepth 100000 in
set_option maxHeartbeats 8000000 in
theorem rlatest_any (A : Option Addr) (n c : Nat) (s : Int) (xs : List Ent) (w : World) (hl : RdL w A n xs) :
    Calls Try.prog 25 #[.slice A n c, .int .i64 s] w fun e w' => ∃ v', e = .returned v' ∧ OwnL w' w.heap.size v' (latL s [] (ris none xs)) ∧ Ext w w' := by
  have HL := Lib.hid hl
  have hn := hl.2.1
  unfold B41 at hn
  clear hl
  go_enter Try.func25, Try.ntmps25
  go_wp2
  go_loopw [5, 6] (fun v i wr => ∃ k : Nat, i = .int .i64 k ∧ k ≤ n ∧ Hid (ris none xs = xs.take k ++ ris (xs.take k).getLast? (xs.drop k)) ∧ Hid (OwnL wr w.heap.size v (latL s [] (xs.take k))) ∧ Ext w wr) (fun _ i _ => n - (intOf i).toNat)
  case atStart => exact ⟨0, rfl, Nat.zero_le _, Lib.hid (by simp), Lib.hid (OwnL.nil _ _), Ext.rfl_ _⟩
  case round =>
    obtain ⟨k, rfl, hk, h1, ho, hE⟩ := hrel
    by_cases c1 : (k : Int) < (n : Int)
    · have hke : k < xs.length := by rw [HL.out.1]; omega
      obtain ⟨b, o, A1, n1, c1', A2, n2, c2', x, rfl, hx, ⟨q0, q1, q2, q3⟩, hr⟩ := HL.out.at_ k (by omega)
      have hxe : xs[k] = x := by rw [List.getElem?_eq_getElem hke] at hx; exact Option.some.inj hx
      have hS : ∀ W, Ext w W → W.cell? ⟨b, o + k * 4, none⟩ = some (.slice A1 n1 c1') ∧ W.cell? ⟨b, o + k * 4 + 1, none⟩ = some (.int .i64 x.seq) ∧ W.cell? ⟨b, o + k * 4 + 2, none⟩ = some (.int .i64 x.kind) ∧ W.cell? ⟨b, o + k * 4 + 3, none⟩ = some (.slice A2 n2 c2') := fun W K =>
        ⟨K.keeps _ _ _ q0, K.keeps _ _ _ q1, K.keeps _ _ _ q2, K.keeps _ _ _ q3⟩
      have HS := Lib.hid hS
      have HR := Lib.hid hr
      have HXE := Lib.hid hxe
      have HKE := Lib.hid hke
      have hlen : (latL s [] (xs.take k)).length ≤ k := Nat.le_trans (latL_le _ _ _) (by rw [List.length_take]; omega)
      have HLEN := Lib.hid hlen
      obtain ⟨B, n', c', rfl, _, hro, _⟩ := ho.out.formN (by unfold B41; omega)
      have hn'l := hro.1
      have HRO := Lib.hid hro
      obtain ⟨hkey, hval, hkb, hvb, _⟩ := HR.out.parts
      have HKEY := Lib.hid hkey
      unfold B47 at hkb
      have hn'n : n' ≤ k := by rw [← hn'l]; exact hlen
      have hel : Elt w w.heap.size ⟨A1, n1, c1', A2, n2, c2'⟩ x := ⟨HR.out, Apt.low _ hkey (Nat.le_refl _), Apt.low _ hval (Nat.le_refl _)⟩
      have HEL := Lib.hid hel
      have hne : x.key ≠ [] ∨ mayE x = false := by
        by_cases h : mayE x = true
        · exact .inl (fun e => by have := (mayE_iff.1 h).1; rw [e] at this; simp at this)
        · exact .inr (by simpa using h)
      have HNE := Lib.hid hne
      clear hS hr hxe hx q0 q1 q2 q3 hlen hn'l hro hkey hval hel hne
      by_cases hm : mayE x = true
      · have HM := Lib.hid hm
        clear hm
        rcases Nat.eq_zero_or_pos k with hk0 | hk0
        · have hgo : behO (xs.take k).getLast? x = true := by subst hk0; simp [behO]; exact HM.out
          have HGO := Lib.hid hgo
          clear hgo
          have hz1 : ¬ (0 : Int) < (k : Int) := by omega
          have hz2 : ¬ 0 < k := by omega
          have HK0 := Lib.hid hk0
          clear hk0
          go_wp2
          refine wp_region_held_drew (S := (fun W => W.cell? ⟨b, o + k * 4, none⟩ = some (.slice A1 n1 c1') ∧ W.cell? ⟨b, o + k * 4 + 1, none⟩ = some (.int .i64 x.seq) ∧ W.cell? ⟨b, o + k * 4 + 2, none⟩ = some (.int .i64 x.kind) ∧ W.cell? ⟨b, o + k * 4 + 3, none⟩ = some (.slice A2 n2 c2'))) (by kernel_rfl) (by (try dsimp only); exact HS.out _ (by with_reducible (repeat (first | exact Ext.rfl_ _ | assumption | refine Ext.drew ?_ | refine Ext.drewN ?_ _ | refine Ext.alloc ?_ _ | refine Ext.trans ?_ (by assumption))))) (fun hHeld => ?_)
          refine wpAnyH_take (i := 0) (oi := ({ dst := some 13, op := .move (.tmp 0), type := 42, pos := "ref.go:187", after := #[], guard := none } : Go.Oper)) (v := ?v1) rfl (by kernel_rfl) (by kernel_rfl) (by kernel_rfl) (fun _ _ _ h => h) (Or.inl ⟨by rfl, ?hy1⟩) (by assumption) ?rest1
          case hy1 => (intro w hSw; (try dsimp only at hSw); go_simp; (try with_reducible rfl))
          (try simp only [Act.put, List.getElem_toArray, List.getElem_cons_zero, List.getElem_cons_succ, List.setIfInBounds_toArray, List.set_cons_zero, List.set_cons_succ])
          refine wpAnyH_take (i := 1) (oi := ({ dst := some 14, op := .move (.tmp 6), type := 3, pos := "ref.go:187", after := #[], guard := none } : Go.Oper)) (v := ?v2) rfl (by kernel_rfl) (by kernel_rfl) (by kernel_rfl) (fun _ _ _ h => h) (Or.inl ⟨by rfl, ?hy2⟩) (by assumption) ?rest2
          case hy2 => (intro w hSw; (try dsimp only at hSw); go_simp; (try with_reducible rfl))
          (try simp only [Act.put, List.getElem_toArray, List.getElem_cons_zero, List.getElem_cons_succ, List.setIfInBounds_toArray, List.set_cons_zero, List.set_cons_succ])
          refine wpAnyH_take (i := 2) (oi := ({ dst := some 15, op := .indexAddr 42 (.tmp 13) (.tmp 14), type := 0, pos := "ref.go:187", after := #[⟨0, .data⟩, ⟨1, .data⟩], guard := none } : Go.Oper)) (v := ?v3) rfl (by kernel_rfl) (by kernel_rfl) (by kernel_rfl) (fun _ _ _ h => h) (Or.inl ⟨by rfl, ?hy3⟩) (by assumption) ?rest3
          case hy3 => (intro w hSw; (try dsimp only at hSw); go_simp; (try with_reducible rfl))
          (try simp only [Act.put, List.getElem_toArray, List.getElem_cons_zero, List.getElem_cons_succ, List.setIfInBounds_toArray, List.set_cons_zero, List.set_cons_succ])
          refine wpAnyH_take (i := 3) (oi := ({ dst := some 16, op := .load 25 (.tmp 15), type := 25, pos := "ref.go:187", after := #[⟨2, .data⟩], guard := none } : Go.Oper)) (v := ?v4) rfl (by kernel_rfl) (by kernel_rfl) (by kernel_rfl) (fun _ _ _ h => h) (Or.inl ⟨by rfl, ?hy4⟩) (by assumption) ?rest4
          case hy4 => (intro w hSw; (try dsimp only at hSw); go_simp; (try with_reducible rfl))
          (try simp only [Act.put, List.getElem_toArray, List.getElem_cons_zero, List.getElem_cons_succ, List.setIfInBounds_toArray, List.set_cons_zero, List.set_cons_succ])
          refine wpAnyH_ready (rs := [4]) (by kernel_rfl) (by simp) ?_
          refine AllReadyH.cons (o := ({ dst := some 17, op := .call { callee := .value (.func 18), args := #[.tmp 16], argTypes := #[25] }, type := 4, pos := "ref.go:187", after := #[⟨3, .data⟩], guard := none } : Go.Oper)) rfl (fun K hK => ?_) AllReadyH.nil
          go_simp
          (go_at_call 18; refine (rmay_any _ x _ (HR.out.ext (by with_reducible (repeat (first | exact Ext.rfl_ _ | assumption | refine Ext.drew ?_ | refine Ext.drewN ?_ _ | refine Ext.alloc ?_ _ | refine Ext.trans ?_ (by assumption)))))).mono ?_; rintro e w1 ⟨rfl, hw1⟩; rw [HM.out])
          (try (go_wp2_with fail))
          refine hK.out _ _ (by (try dsimp only); exact HS.out _ (by with_reducible (repeat (first | exact Ext.rfl_ _ | assumption | refine Ext.drew ?_ | refine Ext.drewN ?_ _ | refine Ext.alloc ?_ _ | refine Ext.trans ?_ (by assumption))))) (fun hHeld => ?_)
          clear hK K
          (try simp only [Act.put, List.getElem_toArray, List.getElem_cons_zero, List.getElem_cons_succ, List.setIfInBounds_toArray, List.set_cons_zero, List.set_cons_succ])
          refine wpAnyH_take (i := 5) (oi := ({ dst := some 18, op := .unOp .not 4 (.tmp 17), type := 4, pos := "ref.go:187", after := #[⟨4, .data⟩], guard := none } : Go.Oper)) (v := ?v5) rfl (by kernel_rfl) (by kernel_rfl) (by kernel_rfl) (fun _ _ _ h => h) (Or.inl ⟨by rfl, ?hy5⟩) (by assumption) ?rest5
          case hy5 => (intro w hSw; (try dsimp only at hSw); go_simp; (try with_reducible rfl))
          (try simp only [Act.put, List.getElem_toArray, List.getElem_cons_zero, List.getElem_cons_succ, List.setIfInBounds_toArray, List.set_cons_zero, List.set_cons_succ])
          refine wpAnyH_take (i := 6) (oi := ({ dst := some 19, op := .move (.tmp 18), type := 4, pos := "ref.go:187", after := #[⟨5, .data⟩, ⟨4, .chain⟩], guard := none } : Go.Oper)) (v := ?v6) rfl (by kernel_rfl) (by kernel_rfl) (by kernel_rfl) (fun _ _ _ h => h) (Or.inl ⟨by rfl, ?hy6⟩) (by assumption) ?rest6
          case hy6 => (intro w hSw; (try dsimp only at hSw); go_simp; (try with_reducible rfl))
          (try simp only [Act.put, List.getElem_toArray, List.getElem_cons_zero, List.getElem_cons_succ, List.setIfInBounds_toArray, List.set_cons_zero, List.set_cons_succ])
          refine wpAnyH_take (i := 7) (oi := ({ dst := some 20, op := .move (.tmp 6), type := 3, pos := "ref.go:187", after := #[⟨6, .guard⟩], guard := some (6, false) } : Go.Oper)) (v := ?v7) rfl (by kernel_rfl) (by kernel_rfl) (by kernel_rfl) (fun _ _ _ h => h) (Or.inl ⟨by rfl, ?hy7⟩) (by assumption) ?rest7
          case hy7 => (intro w hSw; (try dsimp only at hSw); go_simp; (try with_reducible rfl))
          (try simp only [Act.put, List.getElem_toArray, List.getElem_cons_zero, List.getElem_cons_succ, List.setIfInBounds_toArray, List.set_cons_zero, List.set_cons_succ])
          refine wpAnyH_take (i := 8) (oi := ({ dst := some 21, op := .binOp .gtr 3 (.tmp 20) (.const (.int .i64 0)) 3, type := 4, pos := "ref.go:187", after := #[⟨7, .data⟩, ⟨6, .guard⟩], guard := some (6, false) } : Go.Oper)) (v := ?v8) rfl (by kernel_rfl) (by kernel_rfl) (by kernel_rfl) (fun _ _ _ h => h) (Or.inl ⟨by rfl, ?hy8⟩) (by assumption) ?rest8
          case hy8 => (intro w hSw; (try dsimp only at hSw); go_simp; (try with_reducible rfl))
          (try simp only [Act.put, List.getElem_toArray, List.getElem_cons_zero, List.getElem_cons_succ, List.setIfInBounds_toArray, List.set_cons_zero, List.set_cons_succ])
          refine wpAnyH_take (i := 9) (oi := ({ dst := some 22, op := .move (.tmp 21), type := 4, pos := "ref.go:187", after := #[⟨8, .data⟩, ⟨6, .chain⟩, ⟨6, .guard⟩], guard := some (6, false) } : Go.Oper)) (v := ?v9) rfl (by kernel_rfl) (by kernel_rfl) (by kernel_rfl) (fun _ _ _ h => h) (Or.inl ⟨by rfl, ?hy9⟩) (by assumption) ?rest9
          case hy9 => (intro w hSw; (try dsimp only at hSw); go_simp; (try with_reducible rfl))
          (try simp only [Act.put, List.getElem_toArray, List.getElem_cons_zero, List.getElem_cons_succ, List.setIfInBounds_toArray, List.set_cons_zero, List.set_cons_succ])
          refine wpAnyH_take (i := 10) (oi := ({ dst := some 23, op := .move (.tmp 0), type := 42, pos := "ref.go:187", after := #[⟨9, .guard⟩], guard := some (9, true) } : Go.Oper)) (v := undef) rfl (by kernel_rfl) (by kernel_rfl) (by kernel_rfl) (fun _ _ _ h => h) (Or.inr ⟨by rfl, rfl⟩) (by assumption) ?_
          (try simp only [Act.put, List.getElem_toArray, List.getElem_cons_zero, List.getElem_cons_succ, List.setIfInBounds_toArray, List.set_cons_zero, List.set_cons_succ])
          refine wpAnyH_take (i := 11) (oi := ({ dst := some 24, op := .move (.tmp 6), type := 3, pos := "ref.go:187", after := #[⟨9, .guard⟩], guard := some (9, true) } : Go.Oper)) (v := undef) rfl (by kernel_rfl) (by kernel_rfl) (by kernel_rfl) (fun _ _ _ h => h) (Or.inr ⟨by rfl, rfl⟩) (by assumption) ?_
          (try simp only [Act.put, List.getElem_toArray, List.getElem_cons_zero, List.getElem_cons_succ, List.setIfInBounds_toArray, List.set_cons_zero, List.set_cons_succ])
          refine wpAnyH_take (i := 12) (oi := ({ dst := some 25, op := .binOp .sub 3 (.tmp 24) (.const (.int .i64 1)) 3, type := 3, pos := "ref.go:187", after := #[⟨11, .data⟩, ⟨9, .guard⟩], guard := some (9, true) } : Go.Oper)) (v := undef) rfl (by kernel_rfl) (by kernel_rfl) (by kernel_rfl) (fun _ _ _ h => h) (Or.inr ⟨by rfl, rfl⟩) (by assumption) ?_
          (try simp only [Act.put, List.getElem_toArray, List.getElem_cons_zero, List.getElem_cons_succ, List.setIfInBounds_toArray, List.set_cons_zero, List.set_cons_succ])
          refine wpAnyH_take (i := 13) (oi := ({ dst := some 26, op := .indexAddr 42 (.tmp 23) (.tmp 25), type := 0, pos := "ref.go:187", after := #[⟨10, .data⟩, ⟨12, .data⟩, ⟨9, .guard⟩], guard := some (9, true) } : Go.Oper)) (v := undef) rfl (by kernel_rfl) (by kernel_rfl) (by kernel_rfl) (fun _ _ _ h => h) (Or.inr ⟨by rfl, rfl⟩) (by assumption) ?_
          (try simp only [Act.put, List.getElem_toArray, List.getElem_cons_zero, List.getElem_cons_succ, List.setIfInBounds_toArray, List.set_cons_zero, List.set_cons_succ])
          refine wpAnyH_take (i := 14) (oi := ({ dst := some 27, op := .load 25 (.tmp 26), type := 25, pos := "ref.go:187", after := #[⟨13, .data⟩, ⟨9, .guard⟩], guard := some (9, true) } : Go.Oper)) (v := undef) rfl (by kernel_rfl) (by kernel_rfl) (by kernel_rfl) (fun _ _ _ h => h) (Or.inr ⟨by rfl, rfl⟩) (by assumption) ?_
          (try simp only [Act.put, List.getElem_toArray, List.getElem_cons_zero, List.getElem_cons_succ, List.setIfInBounds_toArray, List.set_cons_zero, List.set_cons_succ])
          refine wpAnyH_take (i := 15) (oi := ({ dst := some 28, op := .move (.tmp 0), type := 42, pos := "ref.go:187", after := #[⟨9, .guard⟩], guard := some (9, true) } : Go.Oper)) (v := undef) rfl (by kernel_rfl) (by kernel_rfl) (by kernel_rfl) (fun _ _ _ h => h) (Or.inr ⟨by rfl, rfl⟩) (by assumption) ?_
          (try simp only [Act.put, List.getElem_toArray, List.getElem_cons_zero, List.getElem_cons_succ, List.setIfInBounds_toArray, List.set_cons_zero, List.set_cons_succ])
          refine wpAnyH_take (i := 16) (oi := ({ dst := some 29, op := .move (.tmp 6), type := 3, pos := "ref.go:187", after := #[⟨9, .guard⟩], guard := some (9, true) } : Go.Oper)) (v := undef) rfl (by kernel_rfl) (by kernel_rfl) (by kernel_rfl) (fun _ _ _ h => h) (Or.inr ⟨by rfl, rfl⟩) (by assumption) ?_
          (try simp only [Act.put, List.getElem_toArray, List.getElem_cons_zero, List.getElem_cons_succ, List.setIfInBounds_toArray, List.set_cons_zero, List.set_cons_succ])
          refine wpAnyH_take (i := 17) (oi := ({ dst := some 30, op := .indexAddr 42 (.tmp 28) (.tmp 29), type := 0, pos := "ref.go:187", after := #[⟨15, .data⟩, ⟨16, .data⟩, ⟨9, .guard⟩], guard := some (9, true) } : Go.Oper)) (v := undef) rfl (by kernel_rfl) (by kernel_rfl) (by kernel_rfl) (fun _ _ _ h => h) (Or.inr ⟨by rfl, rfl⟩) (by assumption) ?_
          (try simp only [Act.put, List.getElem_toArray, List.getElem_cons_zero, List.getElem_cons_succ, List.setIfInBounds_toArray, List.set_cons_zero, List.set_cons_succ])
          refine wpAnyH_take (i := 18) (oi := ({ dst := some 31, op := .load 25 (.tmp 30), type := 25, pos := "ref.go:187", after := #[⟨17, .data⟩, ⟨9, .guard⟩], guard := some (9, true) } : Go.Oper)) (v := undef) rfl (by kernel_rfl) (by kernel_rfl) (by kernel_rfl) (fun _ _ _ h => h) (Or.inr ⟨by rfl, rfl⟩) (by assumption) ?_
          (try simp only [Act.put, List.getElem_toArray, List.getElem_cons_zero, List.getElem_cons_succ, List.setIfInBounds_toArray, List.set_cons_zero, List.set_cons_succ])
          refine wpAnyH_take (i := 19) (oi := ({ dst := some 32, op := .call { callee := .value (.func 27), args := #[.tmp 27, .tmp 31], argTypes := #[25, 25] }, type := 3, pos := "ref.go:187", after := #[⟨14, .data⟩, ⟨18, .data⟩, ⟨9, .chain⟩, ⟨9, .guard⟩], guard := some (9, true) } : Go.Oper)) (v := undef) rfl (by kernel_rfl) (by kernel_rfl) (by kernel_rfl) (fun _ _ _ h => h) (Or.inr ⟨by rfl, rfl⟩) (by assumption) ?_
          (try simp only [Act.put, List.getElem_toArray, List.getElem_cons_zero, List.getElem_cons_succ, List.setIfInBounds_toArray, List.set_cons_zero, List.set_cons_succ])
          refine wpAnyH_take (i := 20) (oi := ({ dst := some 33, op := .binOp .geq 3 (.tmp 32) (.const (.int .i64 0)) 3, type := 4, pos := "ref.go:187", after := #[⟨19, .data⟩, ⟨9, .guard⟩], guard := some (9, true) } : Go.Oper)) (v := undef) rfl (by kernel_rfl) (by kernel_rfl) (by kernel_rfl) (fun _ _ _ h => h) (Or.inr ⟨by rfl, rfl⟩) (by assumption) ?_
          (try simp only [Act.put, List.getElem_toArray, List.getElem_cons_zero, List.getElem_cons_succ, List.setIfInBounds_toArray, List.set_cons_zero, List.set_cons_succ])
          refine wpAnyH_take (i := 21) (oi := ({ dst := some 34, op := .pick (.tmp 22) (.tmp 33) (.const (.bool false)), type := 4, pos := "ref.go:187", after := #[⟨9, .data⟩, ⟨20, .data⟩, ⟨6, .guard⟩], guard := some (6, false) } : Go.Oper)) (v := ?v10) rfl (by kernel_rfl) (by kernel_rfl) (by kernel_rfl) (fun _ _ _ h => h) (Or.inl ⟨by rfl, ?hy10⟩) (by assumption) ?rest10
          case hy10 => (intro w hSw; (try dsimp only at hSw); go_simp; (try with_reducible rfl))
          (try simp only [Act.put, List.getElem_toArray, List.getElem_cons_zero, List.getElem_cons_succ, List.setIfInBounds_toArray, List.set_cons_zero, List.set_cons_succ])
          refine wpAnyH_take (i := 22) (oi := ({ dst := some 35, op := .pick (.tmp 19) (.const (.bool true)) (.tmp 34), type := 4, pos := "ref.go:187", after := #[⟨6, .data⟩, ⟨21, .data⟩], guard := none } : Go.Oper)) (v := ?v11) rfl (by kernel_rfl) (by kernel_rfl) (by kernel_rfl) (fun _ _ _ h => h) (Or.inl ⟨by rfl, ?hy11⟩) (by assumption) ?rest11
          case hy11 => (intro w hSw; (try dsimp only at hSw); go_simp; (try with_reducible rfl))
          (try simp only [Act.put, List.getElem_toArray, List.getElem_cons_zero, List.getElem_cons_succ, List.setIfInBounds_toArray, List.set_cons_zero, List.set_cons_succ])
          refine wpAnyH_done (by kernel_rfl) ?_ _
          have xr : Ext wr w1 := (by with_reducible (repeat (first | exact Ext.rfl_ _ | assumption | refine Ext.drew ?_ | refine Ext.drewN ?_ _ | refine Ext.alloc ?_ _ | refine Ext.trans ?_ (by assumption))))
          have xw : Ext w w1 := hE.trans xr
          have ho2 := OwnL.ext ho.out xr
          have HO2 := Lib.hid ho2
          have hro2 := HRO.out.ext xr
          have HRO2 := Lib.hid hro2
          obtain ⟨z0, z1, z2, z3⟩ := HS.out _ xw
          clear ho2 hro2 xr
          clear hw1
          by_cases t1 : x.seq ≤ s
          · by_cases t2 : n' = 0
            · subst t2
              have hnil : latL s [] (xs.take k) = [] := List.eq_nil_of_length_eq_zero HRO2.out.1
              have htk := latL_take (s := s) (p := []) (pre := xs.take k) (x := x) (fun h => by rcases h with h | h; omega; rw [lky_empty hnil] at h; rcases HNE.out with h2 | h2; exact h2 h.symm; rw [HM.out] at h2; cases h2)
              have HTK := Lib.hid htk
              clear htk
              clear hnil
              go_wp2
              refine wp_region_held_drew (S := (fun W => W.cell? ⟨b, o + k * 4, none⟩ = some (.slice A1 n1 c1') ∧ W.cell? ⟨b, o + k * 4 + 1, none⟩ = some (.int .i64 x.seq) ∧ W.cell? ⟨b, o + k * 4 + 2, none⟩ = some (.int .i64 x.kind) ∧ W.cell? ⟨b, o + k * 4 + 3, none⟩ = some (.slice A2 n2 c2'))) (by kernel_rfl) (by (try dsimp only); exact HS.out _ (by with_reducible (repeat (first | exact Ext.rfl_ _ | assumption | refine Ext.drew ?_ | refine Ext.drewN ?_ _ | refine Ext.alloc ?_ _ | refine Ext.trans ?_ (by assumption))))) (fun hHeld => ?_)
              refine wpAnyH_take (i := 0) (oi := ({ dst := some 37, op := .move (.tmp 0), type := 42, pos := "ref.go:190", after := #[], guard := none } : Go.Oper)) (v := ?v12) rfl (by kernel_rfl) (by kernel_rfl) (by kernel_rfl) (fun _ _ _ h => h) (Or.inl ⟨by rfl, ?hy12⟩) (by assumption) ?rest12
              case hy12 => (intro w hSw; (try dsimp only at hSw); go_simp; (try with_reducible rfl))
              (try simp only [Act.put, List.getElem_toArray, List.getElem_cons_zero, List.getElem_cons_succ, List.setIfInBounds_toArray, List.set_cons_zero, List.set_cons_succ])
              refine wpAnyH_take (i := 1) (oi := ({ dst := some 38, op := .move (.tmp 6), type := 3, pos := "ref.go:190", after := #[], guard := none } : Go.Oper)) (v := ?v13) rfl (by kernel_rfl) (by kernel_rfl) (by kernel_rfl) (fun _ _ _ h => h) (Or.inl ⟨by rfl, ?hy13⟩) (by assumption) ?rest13
              case hy13 => (intro w hSw; (try dsimp only at hSw); go_simp; (try with_reducible rfl))
              (try simp only [Act.put, List.getElem_toArray, List.getElem_cons_zero, List.getElem_cons_succ, List.setIfInBounds_toArray, List.set_cons_zero, List.set_cons_succ])
              refine wpAnyH_take (i := 2) (oi := ({ dst := some 39, op := .indexAddr 42 (.tmp 37) (.tmp 38), type := 0, pos := "ref.go:190", after := #[⟨0, .data⟩, ⟨1, .data⟩], guard := none } : Go.Oper)) (v := ?v14) rfl (by kernel_rfl) (by kernel_rfl) (by kernel_rfl) (fun _ _ _ h => h) (Or.inl ⟨by rfl, ?hy14⟩) (by assumption) ?rest14
              case hy14 => (intro w hSw; (try dsimp only at hSw); go_simp; (try with_reducible rfl))
              (try simp only [Act.put, List.getElem_toArray, List.getElem_cons_zero, List.getElem_cons_succ, List.setIfInBounds_toArray, List.set_cons_zero, List.set_cons_succ])
              refine wpAnyH_take (i := 3) (oi := ({ dst := some 40, op := .fieldAddr 25 (.tmp 39) 1, type := 0, pos := "ref.go:190", after := #[⟨2, .data⟩], guard := none } : Go.Oper)) (v := ?v15) rfl (by kernel_rfl) (by kernel_rfl) (by kernel_rfl) (fun _ _ _ h => h) (Or.inl ⟨by rfl, ?hy15⟩) (by assumption) ?rest15
              case hy15 => (intro w hSw; (try dsimp only at hSw); go_simp; (try with_reducible rfl))
              (try simp only [Act.put, List.getElem_toArray, List.getElem_cons_zero, List.getElem_cons_succ, List.setIfInBounds_toArray, List.set_cons_zero, List.set_cons_succ])
              refine wpAnyH_take (i := 4) (oi := ({ dst := some 41, op := .load 2 (.tmp 40), type := 2, pos := "ref.go:190", after := #[⟨3, .data⟩], guard := none } : Go.Oper)) (v := ?v16) rfl (by kernel_rfl) (by kernel_rfl) (by kernel_rfl) (fun _ _ _ h => h) (Or.inl ⟨by rfl, ?hy16⟩) (by assumption) ?rest16
              case hy16 => (intro w hSw; (try dsimp only at hSw); go_simp; (try with_reducible rfl))
              (try simp only [Act.put, List.getElem_toArray, List.getElem_cons_zero, List.getElem_cons_succ, List.setIfInBounds_toArray, List.set_cons_zero, List.set_cons_succ])
              refine wpAnyH_take (i := 5) (oi := ({ dst := some 42, op := .move (.tmp 1), type := 2, pos := "ref.go:190", after := #[], guard := none } : Go.Oper)) (v := ?v17) rfl (by kernel_rfl) (by kernel_rfl) (by kernel_rfl) (fun _ _ _ h => h) (Or.inl ⟨by rfl, ?hy17⟩) (by assumption) ?rest17
              case hy17 => (intro w hSw; (try dsimp only at hSw); go_simp; (try with_reducible rfl))
              (try simp only [Act.put, List.getElem_toArray, List.getElem_cons_zero, List.getElem_cons_succ, List.setIfInBounds_toArray, List.set_cons_zero, List.set_cons_succ])
              refine wpAnyH_take (i := 6) (oi := ({ dst := some 43, op := .binOp .leq 2 (.tmp 41) (.tmp 42) 2, type := 4, pos := "ref.go:190", after := #[⟨4, .data⟩, ⟨5, .data⟩], guard := none } : Go.Oper)) (v := ?v18) rfl (by kernel_rfl) (by kernel_rfl) (by kernel_rfl) (fun _ _ _ h => h) (Or.inl ⟨by rfl, ?hy18⟩) (by assumption) ?rest18
              case hy18 => (intro w hSw; (try dsimp only at hSw); go_simp; (try with_reducible rfl))
              (try simp only [Act.put, List.getElem_toArray, List.getElem_cons_zero, List.getElem_cons_succ, List.setIfInBounds_toArray, List.set_cons_zero, List.set_cons_succ])
              refine wpAnyH_take (i := 7) (oi := ({ dst := some 44, op := .move (.tmp 43), type := 4, pos := "ref.go:190", after := #[⟨6, .data⟩], guard := none } : Go.Oper)) (v := ?v19) rfl (by kernel_rfl) (by kernel_rfl) (by kernel_rfl) (fun _ _ _ h => h) (Or.inl ⟨by rfl, ?hy19⟩) (by assumption) ?rest19
              case hy19 => (intro w hSw; (try dsimp only at hSw); go_simp; (try with_reducible rfl))
              (try simp only [Act.put, List.getElem_toArray, List.getElem_cons_zero, List.getElem_cons_succ, List.setIfInBounds_toArray, List.set_cons_zero, List.set_cons_succ])
              refine wpAnyH_take (i := 8) (oi := ({ dst := some 45, op := .move (.tmp 5), type := 42, pos := "ref.go:190", after := #[⟨7, .guard⟩], guard := some (7, true) } : Go.Oper)) (v := ?v20) rfl (by kernel_rfl) (by kernel_rfl) (by kernel_rfl) (fun _ _ _ h => h) (Or.inl ⟨by rfl, ?hy20⟩) (by assumption) ?rest20
              case hy20 => (intro w hSw; (try dsimp only at hSw); go_simp; (try with_reducible rfl))
              (try simp only [Act.put, List.getElem_toArray, List.getElem_cons_zero, List.getElem_cons_succ, List.setIfInBounds_toArray, List.set_cons_zero, List.set_cons_succ])
              refine wpAnyH_take (i := 9) (oi := ({ dst := some 46, op := .call { callee := .builtin .len, args := #[.tmp 45], argTypes := #[42] }, type := 3, pos := "ref.go:190", after := #[⟨8, .data⟩, ⟨7, .guard⟩], guard := some (7, true) } : Go.Oper)) (v := ?v21) rfl (by kernel_rfl) (by kernel_rfl) (by kernel_rfl) (fun _ _ _ h => h) (Or.inl ⟨by rfl, ?hy21⟩) (by assumption) ?rest21
              case hy21 => (intro w hSw; (try dsimp only at hSw); go_simp; (try with_reducible rfl))
              (try simp only [Act.put, List.getElem_toArray, List.getElem_cons_zero, List.getElem_cons_succ, List.setIfInBounds_toArray, List.set_cons_zero, List.set_cons_succ])
              refine wpAnyH_take (i := 10) (oi := ({ dst := some 47, op := .binOp .eql 3 (.tmp 46) (.const (.int .i64 0)) 3, type := 4, pos := "ref.go:190", after := #[⟨9, .data⟩, ⟨7, .guard⟩], guard := some (7, true) } : Go.Oper)) (v := ?v22) rfl (by kernel_rfl) (by kernel_rfl) (by kernel_rfl) (fun _ _ _ h => h) (Or.inl ⟨by rfl, ?hy22⟩) (by assumption) ?rest22
              case hy22 => (intro w hSw; (try dsimp only at hSw); go_simp; (try with_reducible rfl))
              (try simp only [Act.put, List.getElem_toArray, List.getElem_cons_zero, List.getElem_cons_succ, List.setIfInBounds_toArray, List.set_cons_zero, List.set_cons_succ])
              refine wpAnyH_take (i := 11) (oi := ({ dst := some 48, op := .move (.tmp 47), type := 4, pos := "ref.go:190", after := #[⟨10, .data⟩, ⟨7, .chain⟩, ⟨7, .guard⟩], guard := some (7, true) } : Go.Oper)) (v := ?v23) rfl (by kernel_rfl) (by kernel_rfl) (by kernel_rfl) (fun _ _ _ h => h) (Or.inl ⟨by rfl, ?hy23⟩) (by assumption) ?rest23
              case hy23 => (intro w hSw; (try dsimp only at hSw); go_simp; (try with_reducible rfl))
              (try simp only [Act.put, List.getElem_toArray, List.getElem_cons_zero, List.getElem_cons_succ, List.setIfInBounds_toArray, List.set_cons_zero, List.set_cons_succ])
              refine wpAnyH_take (i := 12) (oi := ({ dst := some 49, op := .move (.tmp 5), type := 42, pos := "ref.go:190", after := #[⟨11, .guard⟩], guard := some (11, false) } : Go.Oper)) (v := undef) rfl (by kernel_rfl) (by kernel_rfl) (by kernel_rfl) (fun _ _ _ h => h) (Or.inr ⟨by rfl, rfl⟩) (by assumption) ?_
              (try simp only [Act.put, List.getElem_toArray, List.getElem_cons_zero, List.getElem_cons_succ, List.setIfInBounds_toArray, List.set_cons_zero, List.set_cons_succ])
              refine wpAnyH_take (i := 13) (oi := ({ dst := some 50, op := .move (.tmp 5), type := 42, pos := "ref.go:190", after := #[⟨11, .guard⟩], guard := some (11, false) } : Go.Oper)) (v := undef) rfl (by kernel_rfl) (by kernel_rfl) (by kernel_rfl) (fun _ _ _ h => h) (Or.inr ⟨by rfl, rfl⟩) (by assumption) ?_
              (try simp only [Act.put, List.getElem_toArray, List.getElem_cons_zero, List.getElem_cons_succ, List.setIfInBounds_toArray, List.set_cons_zero, List.set_cons_succ])
              refine wpAnyH_take (i := 14) (oi := ({ dst := some 51, op := .call { callee := .builtin .len, args := #[.tmp 50], argTypes := #[42] }, type := 3, pos := "ref.go:190", after := #[⟨13, .data⟩, ⟨11, .guard⟩], guard := some (11, false) } : Go.Oper)) (v := undef) rfl (by kernel_rfl) (by kernel_rfl) (by kernel_rfl) (fun _ _ _ h => h) (Or.inr ⟨by rfl, rfl⟩) (by assumption) ?_
              (try simp only [Act.put, List.getElem_toArray, List.getElem_cons_zero, List.getElem_cons_succ, List.setIfInBounds_toArray, List.set_cons_zero, List.set_cons_succ])
              refine wpAnyH_take (i := 15) (oi := ({ dst := some 52, op := .binOp .sub 3 (.tmp 51) (.const (.int .i64 1)) 3, type := 3, pos := "ref.go:190", after := #[⟨14, .data⟩, ⟨11, .guard⟩], guard := some (11, false) } : Go.Oper)) (v := undef) rfl (by kernel_rfl) (by kernel_rfl) (by kernel_rfl) (fun _ _ _ h => h) (Or.inr ⟨by rfl, rfl⟩) (by assumption) ?_
              (try simp only [Act.put, List.getElem_toArray, List.getElem_cons_zero, List.getElem_cons_succ, List.setIfInBounds_toArray, List.set_cons_zero, List.set_cons_succ])
              refine wpAnyH_take (i := 16) (oi := ({ dst := some 53, op := .indexAddr 42 (.tmp 49) (.tmp 52), type := 0, pos := "ref.go:190", after := #[⟨12, .data⟩, ⟨15, .data⟩, ⟨11, .guard⟩], guard := some (11, false) } : Go.Oper)) (v := undef) rfl (by kernel_rfl) (by kernel_rfl) (by kernel_rfl) (fun _ _ _ h => h) (Or.inr ⟨by rfl, rfl⟩) (by assumption) ?_
              (try simp only [Act.put, List.getElem_toArray, List.getElem_cons_zero, List.getElem_cons_succ, List.setIfInBounds_toArray, List.set_cons_zero, List.set_cons_succ])
              refine wpAnyH_take (i := 17) (oi := ({ dst := some 54, op := .fieldAddr 25 (.tmp 53) 0, type := 0, pos := "ref.go:190", after := #[⟨16, .data⟩, ⟨11, .guard⟩], guard := some (11, false) } : Go.Oper)) (v := undef) rfl (by kernel_rfl) (by kernel_rfl) (by kernel_rfl) (fun _ _ _ h => h) (Or.inr ⟨by rfl, rfl⟩) (by assumption) ?_
              (try simp only [Act.put, List.getElem_toArray, List.getElem_cons_zero, List.getElem_cons_succ, List.setIfInBounds_toArray, List.set_cons_zero, List.set_cons_succ])
              refine wpAnyH_take (i := 18) (oi := ({ dst := some 55, op := .load 22 (.tmp 54), type := 22, pos := "ref.go:190", after := #[⟨17, .data⟩, ⟨11, .guard⟩], guard := some (11, false) } : Go.Oper)) (v := undef) rfl (by kernel_rfl) (by kernel_rfl) (by kernel_rfl) (fun _ _ _ h => h) (Or.inr ⟨by rfl, rfl⟩) (by assumption) ?_
              (try simp only [Act.put, List.getElem_toArray, List.getElem_cons_zero, List.getElem_cons_succ, List.setIfInBounds_toArray, List.set_cons_zero, List.set_cons_succ])
              refine wpAnyH_take (i := 19) (oi := ({ dst := some 56, op := .convert 22 9 (.tmp 55), type := 9, pos := "ref.go:190", after := #[⟨18, .data⟩, ⟨11, .guard⟩], guard := some (11, false) } : Go.Oper)) (v := undef) rfl (by kernel_rfl) (by kernel_rfl) (by kernel_rfl) (fun _ _ _ h => h) (Or.inr ⟨by rfl, rfl⟩) (by assumption) ?_
              (try simp only [Act.put, List.getElem_toArray, List.getElem_cons_zero, List.getElem_cons_succ, List.setIfInBounds_toArray, List.set_cons_zero, List.set_cons_succ])
              refine wpAnyH_take (i := 20) (oi := ({ dst := some 57, op := .move (.tmp 0), type := 42, pos := "ref.go:190", after := #[⟨11, .guard⟩], guard := some (11, false) } : Go.Oper)) (v := undef) rfl (by kernel_rfl) (by kernel_rfl) (by kernel_rfl) (fun _ _ _ h => h) (Or.inr ⟨by rfl, rfl⟩) (by assumption) ?_
              (try simp only [Act.put, List.getElem_toArray, List.getElem_cons_zero, List.getElem_cons_succ, List.setIfInBounds_toArray, List.set_cons_zero, List.set_cons_succ])
              refine wpAnyH_take (i := 21) (oi := ({ dst := some 58, op := .move (.tmp 6), type := 3, pos := "ref.go:190", after := #[⟨11, .guard⟩], guard := some (11, false) } : Go.Oper)) (v := undef) rfl (by kernel_rfl) (by kernel_rfl) (by kernel_rfl) (fun _ _ _ h => h) (Or.inr ⟨by rfl, rfl⟩) (by assumption) ?_
              (try simp only [Act.put, List.getElem_toArray, List.getElem_cons_zero, List.getElem_cons_succ, List.setIfInBounds_toArray, List.set_cons_zero, List.set_cons_succ])
              refine wpAnyH_take (i := 22) (oi := ({ dst := some 59, op := .indexAddr 42 (.tmp 57) (.tmp 58), type := 0, pos := "ref.go:190", after := #[⟨20, .data⟩, ⟨21, .data⟩, ⟨11, .guard⟩], guard := some (11, false) } : Go.Oper)) (v := undef) rfl (by kernel_rfl) (by kernel_rfl) (by kernel_rfl) (fun _ _ _ h => h) (Or.inr ⟨by rfl, rfl⟩) (by assumption) ?_
              (try simp only [Act.put, List.getElem_toArray, List.getElem_cons_zero, List.getElem_cons_succ, List.setIfInBounds_toArray, List.set_cons_zero, List.set_cons_succ])
              refine wpAnyH_take (i := 23) (oi := ({ dst := some 60, op := .fieldAddr 25 (.tmp 59) 0, type := 0, pos := "ref.go:190", after := #[⟨22, .data⟩, ⟨11, .guard⟩], guard := some (11, false) } : Go.Oper)) (v := undef) rfl (by kernel_rfl) (by kernel_rfl) (by kernel_rfl) (fun _ _ _ h => h) (Or.inr ⟨by rfl, rfl⟩) (by assumption) ?_
              (try simp only [Act.put, List.getElem_toArray, List.getElem_cons_zero, List.getElem_cons_succ, List.setIfInBounds_toArray, List.set_cons_zero, List.set_cons_succ])
              refine wpAnyH_take (i := 24) (oi := ({ dst := some 61, op := .load 22 (.tmp 60), type := 22, pos := "ref.go:190", after := #[⟨23, .data⟩, ⟨11, .guard⟩], guard := some (11, false) } : Go.Oper)) (v := undef) rfl (by kernel_rfl) (by kernel_rfl) (by kernel_rfl) (fun _ _ _ h => h) (Or.inr ⟨by rfl, rfl⟩) (by assumption) ?_
              (try simp only [Act.put, List.getElem_toArray, List.getElem_cons_zero, List.getElem_cons_succ, List.setIfInBounds_toArray, List.set_cons_zero, List.set_cons_succ])
              refine wpAnyH_take (i := 25) (oi := ({ dst := some 62, op := .convert 22 9 (.tmp 61), type := 9, pos := "ref.go:190", after := #[⟨24, .data⟩, ⟨11, .guard⟩], guard := some (11, false) } : Go.Oper)) (v := undef) rfl (by kernel_rfl) (by kernel_rfl) (by kernel_rfl) (fun _ _ _ h => h) (Or.inr ⟨by rfl, rfl⟩) (by assumption) ?_
              (try simp only [Act.put, List.getElem_toArray, List.getElem_cons_zero, List.getElem_cons_succ, List.setIfInBounds_toArray, List.set_cons_zero, List.set_cons_succ])
              refine wpAnyH_take (i := 26) (oi := ({ dst := some 63, op := .binOp .neq 9 (.tmp 56) (.tmp 62) 9, type := 4, pos := "ref.go:190", after := #[⟨19, .data⟩, ⟨25, .data⟩, ⟨11, .guard⟩], guard := some (11, false) } : Go.Oper)) (v := undef) rfl (by kernel_rfl) (by kernel_rfl) (by kernel_rfl) (fun _ _ _ h => h) (Or.inr ⟨by rfl, rfl⟩) (by assumption) ?_
              (try simp only [Act.put, List.getElem_toArray, List.getElem_cons_zero, List.getElem_cons_succ, List.setIfInBounds_toArray, List.set_cons_zero, List.set_cons_succ])
              refine wpAnyH_take (i := 27) (oi := ({ dst := some 64, op := .pick (.tmp 48) (.const (.bool true)) (.tmp 63), type := 4, pos := "ref.go:190", after := #[⟨11, .data⟩, ⟨26, .data⟩, ⟨7, .guard⟩], guard := some (7, true) } : Go.Oper)) (v := ?v24) rfl (by kernel_rfl) (by kernel_rfl) (by kernel_rfl) (fun _ _ _ h => h) (Or.inl ⟨by rfl, ?hy24⟩) (by assumption) ?rest24
              case hy24 => (intro w hSw; (try dsimp only at hSw); go_simp; (try with_reducible rfl))
              (try simp only [Act.put, List.getElem_toArray, List.getElem_cons_zero, List.getElem_cons_succ, List.setIfInBounds_toArray, List.set_cons_zero, List.set_cons_succ])
              refine wpAnyH_take (i := 28) (oi := ({ dst := some 65, op := .pick (.tmp 44) (.tmp 64) (.const (.bool false)), type := 4, pos := "ref.go:190", after := #[⟨7, .data⟩, ⟨27, .data⟩], guard := none } : Go.Oper)) (v := ?v25) rfl (by kernel_rfl) (by kernel_rfl) (by kernel_rfl) (fun _ _ _ h => h) (Or.inl ⟨by rfl, ?hy25⟩) (by assumption) ?rest25
              case hy25 => (intro w hSw; (try dsimp only at hSw); go_simp; (try with_reducible rfl))
              (try simp only [Act.put, List.getElem_toArray, List.getElem_cons_zero, List.getElem_cons_succ, List.setIfInBounds_toArray, List.set_cons_zero, List.set_cons_succ])
              refine wpAnyH_done (by kernel_rfl) ?_ _
              go_wp2_with (at_builtin; refine wp_appL rfl _ _ rfl w.heap.size _ _ rfl (OwnL.ext HO2.out (by with_reducible (repeat (first | exact Ext.rfl_ _ | assumption | refine Ext.drew ?_ | refine Ext.drewN ?_ _ | refine Ext.alloc ?_ _ | refine Ext.trans ?_ (by assumption))))) (some ⟨_, 0, none⟩) 1 1 [x] rfl (RdLa.one (h := ⟨A1, n1, c1', A2, n2, c2'⟩) (x := x) _ (Elt.ext HEL.out (by with_reducible (repeat (first | exact Ext.rfl_ _ | assumption | refine Ext.drew ?_ | refine Ext.drewN ?_ _ | refine Ext.alloc ?_ _ | refine Ext.trans ?_ (by assumption)))))) (by have := HLEN.out; unfold B41; simp only [List.length_cons, List.length_nil]; omega) (Ext.size (by with_reducible (repeat (first | exact Ext.rfl_ _ | assumption | refine Ext.drew ?_ | refine Ext.drewN ?_ _ | refine Ext.alloc ?_ _ | refine Ext.trans ?_ (by assumption))))) ?_; intro v5 w5 o5 g5 _; have x5 : Ext w w5 := Ext.growL (show Ext w _ from (by with_reducible (repeat (first | exact Ext.rfl_ _ | assumption | refine Ext.drew ?_ | refine Ext.drewN ?_ _ | refine Ext.alloc ?_ _ | refine Ext.trans ?_ (by assumption))))) g5 (OwnL.ext HO2.out (by with_reducible (repeat (first | exact Ext.rfl_ _ | assumption | refine Ext.drew ?_ | refine Ext.drewN ?_ _ | refine Ext.alloc ?_ _ | refine Ext.trans ?_ (by assumption))))) (Nat.le_refl _); clear g5)
              go_roundw
              case rel =>
                refine ⟨k + 1, by go_num, by omega, Lib.hid (ris_go HKE.out h1.out (by rw [HXE.out]; exact HGO.out)), Lib.hid ?_, x5⟩
                rw [List.take_succ_eq_append_getElem HKE.out, HXE.out, HTK.out.1]; exact o5
              case measure => simp [intOf]; omega
            · exact absurd (show n' = 0 by omega) t2
          · have t1' : decide (x.seq ≤ s) = false := decide_eq_false t1
            have hsk := latL_skip (s := s) (p := []) (pre := xs.take k) (x := x) (.inl (by omega))
            have HSK := Lib.hid hsk
            clear hsk
            go_wp2
            refine wp_region_held_drew (S := (fun W => W.cell? ⟨b, o + k * 4, none⟩ = some (.slice A1 n1 c1') ∧ W.cell? ⟨b, o + k * 4 + 1, none⟩ = some (.int .i64 x.seq) ∧ W.cell? ⟨b, o + k * 4 + 2, none⟩ = some (.int .i64 x.kind) ∧ W.cell? ⟨b, o + k * 4 + 3, none⟩ = some (.slice A2 n2 c2'))) (by kernel_rfl) (by (try dsimp only); exact HS.out _ (by with_reducible (repeat (first | exact Ext.rfl_ _ | assumption | refine Ext.drew ?_ | refine Ext.drewN ?_ _ | refine Ext.alloc ?_ _ | refine Ext.trans ?_ (by assumption))))) (fun hHeld => ?_)
            refine wpAnyH_take (i := 0) (oi := ({ dst := some 37, op := .move (.tmp 0), type := 42, pos := "ref.go:190", after := #[], guard := none } : Go.Oper)) (v := ?v26) rfl (by kernel_rfl) (by kernel_rfl) (by kernel_rfl) (fun _ _ _ h => h) (Or.inl ⟨by rfl, ?hy26⟩) (by assumption) ?rest26
            case hy26 => (intro w hSw; (try dsimp only at hSw); go_simp; (try with_reducible rfl))
            (try simp only [Act.put, List.getElem_toArray, List.getElem_cons_zero, List.getElem_cons_succ, List.setIfInBounds_toArray, List.set_cons_zero, List.set_cons_succ])
            refine wpAnyH_take (i := 1) (oi := ({ dst := some 38, op := .move (.tmp 6), type := 3, pos := "ref.go:190", after := #[], guard := none } : Go.Oper)) (v := ?v27) rfl (by kernel_rfl) (by kernel_rfl) (by kernel_rfl) (fun _ _ _ h => h) (Or.inl ⟨by rfl, ?hy27⟩) (by assumption) ?rest27
            case hy27 => (intro w hSw; (try dsimp only at hSw); go_simp; (try with_reducible rfl))
            (try simp only [Act.put, List.getElem_toArray, List.getElem_cons_zero, List.getElem_cons_succ, List.setIfInBounds_toArray, List.set_cons_zero, List.set_cons_succ])
            refine wpAnyH_take (i := 2) (oi := ({ dst := some 39, op := .indexAddr 42 (.tmp 37) (.tmp 38), type := 0, pos := "ref.go:190", after := #[⟨0, .data⟩, ⟨1, .data⟩], guard := none } : Go.Oper)) (v := ?v28) rfl (by kernel_rfl) (by kernel_rfl) (by kernel_rfl) (fun _ _ _ h => h) (Or.inl ⟨by rfl, ?hy28⟩) (by assumption) ?rest28
            case hy28 => (intro w hSw; (try dsimp only at hSw); go_simp; (try with_reducible rfl))
            (try simp only [Act.put, List.getElem_toArray, List.getElem_cons_zero, List.getElem_cons_succ, List.setIfInBounds_toArray, List.set_cons_zero, List.set_cons_succ])
            refine wpAnyH_take (i := 3) (oi := ({ dst := some 40, op := .fieldAddr 25 (.tmp 39) 1, type := 0, pos := "ref.go:190", after := #[⟨2, .data⟩], guard := none } : Go.Oper)) (v := ?v29) rfl (by kernel_rfl) (by kernel_rfl) (by kernel_rfl) (fun _ _ _ h => h) (Or.inl ⟨by rfl, ?hy29⟩) (by assumption) ?rest29
            case hy29 => (intro w hSw; (try dsimp only at hSw); go_simp; (try with_reducible rfl))
            (try simp only [Act.put, List.getElem_toArray, List.getElem_cons_zero, List.getElem_cons_succ, List.setIfInBounds_toArray, List.set_cons_zero, List.set_cons_succ])
            refine wpAnyH_take (i := 4) (oi := ({ dst := some 41, op := .load 2 (.tmp 40), type := 2, pos := "ref.go:190", after := #[⟨3, .data⟩], guard := none } : Go.Oper)) (v := ?v30) rfl (by kernel_rfl) (by kernel_rfl) (by kernel_rfl) (fun _ _ _ h => h) (Or.inl ⟨by rfl, ?hy30⟩) (by assumption) ?rest30
            case hy30 => (intro w hSw; (try dsimp only at hSw); go_simp; (try with_reducible rfl))
            (try simp only [Act.put, List.getElem_toArray, List.getElem_cons_zero, List.getElem_cons_succ, List.setIfInBounds_toArray, List.set_cons_zero, List.set_cons_succ])
            refine wpAnyH_take (i := 5) (oi := ({ dst := some 42, op := .move (.tmp 1), type := 2, pos := "ref.go:190", after := #[], guard := none } : Go.Oper)) (v := ?v31) rfl (by kernel_rfl) (by kernel_rfl) (by kernel_rfl) (fun _ _ _ h => h) (Or.inl ⟨by rfl, ?hy31⟩) (by assumption) ?rest31
            case hy31 => (intro w hSw; (try dsimp only at hSw); go_simp; (try with_reducible rfl))
            (try simp only [Act.put, List.getElem_toArray, List.getElem_cons_zero, List.getElem_cons_succ, List.setIfInBounds_toArray, List.set_cons_zero, List.set_cons_succ])
            refine wpAnyH_take (i := 6) (oi := ({ dst := some 43, op := .binOp .leq 2 (.tmp 41) (.tmp 42) 2, type := 4, pos := "ref.go:190", after := #[⟨4, .data⟩, ⟨5, .data⟩], guard := none } : Go.Oper)) (v := ?v32) rfl (by kernel_rfl) (by kernel_rfl) (by kernel_rfl) (fun _ _ _ h => h) (Or.inl ⟨by rfl, ?hy32⟩) (by assumption) ?rest32
            case hy32 => (intro w hSw; (try dsimp only at hSw); go_simp; (try with_reducible rfl))
            (try simp only [Act.put, List.getElem_toArray, List.getElem_cons_zero, List.getElem_cons_succ, List.setIfInBounds_toArray, List.set_cons_zero, List.set_cons_succ])
            refine wpAnyH_take (i := 7) (oi := ({ dst := some 44, op := .move (.tmp 43), type := 4, pos := "ref.go:190", after := #[⟨6, .data⟩], guard := none } : Go.Oper)) (v := ?v33) rfl (by kernel_rfl) (by kernel_rfl) (by kernel_rfl) (fun _ _ _ h => h) (Or.inl ⟨by rfl, ?hy33⟩) (by assumption) ?rest33
            case hy33 => (intro w hSw; (try dsimp only at hSw); go_simp; (try with_reducible rfl))
            (try simp only [Act.put, List.getElem_toArray, List.getElem_cons_zero, List.getElem_cons_succ, List.setIfInBounds_toArray, List.set_cons_zero, List.set_cons_succ])
            refine wpAnyH_take (i := 8) (oi := ({ dst := some 45, op := .move (.tmp 5), type := 42, pos := "ref.go:190", after := #[⟨7, .guard⟩], guard := some (7, true) } : Go.Oper)) (v := undef) rfl (by kernel_rfl) (by kernel_rfl) (by kernel_rfl) (fun _ _ _ h => h) (Or.inr ⟨by rfl, rfl⟩) (by assumption) ?_
            (try simp only [Act.put, List.getElem_toArray, List.getElem_cons_zero, List.getElem_cons_succ, List.setIfInBounds_toArray, List.set_cons_zero, List.set_cons_succ])
            refine wpAnyH_take (i := 9) (oi := ({ dst := some 46, op := .call { callee := .builtin .len, args := #[.tmp 45], argTypes := #[42] }, type := 3, pos := "ref.go:190", after := #[⟨8, .data⟩, ⟨7, .guard⟩], guard := some (7, true) } : Go.Oper)) (v := undef) rfl (by kernel_rfl) (by kernel_rfl) (by kernel_rfl) (fun _ _ _ h => h) (Or.inr ⟨by rfl, rfl⟩) (by assumption) ?_
            (try simp only [Act.put, List.getElem_toArray, List.getElem_cons_zero, List.getElem_cons_succ, List.setIfInBounds_toArray, List.set_cons_zero, List.set_cons_succ])
            refine wpAnyH_take (i := 10) (oi := ({ dst := some 47, op := .binOp .eql 3 (.tmp 46) (.const (.int .i64 0)) 3, type := 4, pos := "ref.go:190", after := #[⟨9, .data⟩, ⟨7, .guard⟩], guard := some (7, true) } : Go.Oper)) (v := undef) rfl (by kernel_rfl) (by kernel_rfl) (by kernel_rfl) (fun _ _ _ h => h) (Or.inr ⟨by rfl, rfl⟩) (by assumption) ?_
            (try simp only [Act.put, List.getElem_toArray, List.getElem_cons_zero, List.getElem_cons_succ, List.setIfInBounds_toArray, List.set_cons_zero, List.set_cons_succ])
            refine wpAnyH_take (i := 11) (oi := ({ dst := some 48, op := .move (.tmp 47), type := 4, pos := "ref.go:190", after := #[⟨10, .data⟩, ⟨7, .chain⟩, ⟨7, .guard⟩], guard := some (7, true) } : Go.Oper)) (v := undef) rfl (by kernel_rfl) (by kernel_rfl) (by kernel_rfl) (fun _ _ _ h => h) (Or.inr ⟨by rfl, rfl⟩) (by assumption) ?_
            (try simp only [Act.put, List.getElem_toArray, List.getElem_cons_zero, List.getElem_cons_succ, List.setIfInBounds_toArray, List.set_cons_zero, List.set_cons_succ])
            refine wpAnyH_take (i := 12) (oi := ({ dst := some 49, op := .move (.tmp 5), type := 42, pos := "ref.go:190", after := #[⟨11, .guard⟩], guard := some (11, false) } : Go.Oper)) (v := undef) rfl (by kernel_rfl) (by kernel_rfl) (by kernel_rfl) (fun _ _ _ h => h) (Or.inr ⟨by rfl, rfl⟩) (by assumption) ?_
            (try simp only [Act.put, List.getElem_toArray, List.getElem_cons_zero, List.getElem_cons_succ, List.setIfInBounds_toArray, List.set_cons_zero, List.set_cons_succ])
            refine wpAnyH_take (i := 13) (oi := ({ dst := some 50, op := .move (.tmp 5), type := 42, pos := "ref.go:190", after := #[⟨11, .guard⟩], guard := some (11, false) } : Go.Oper)) (v := undef) rfl (by kernel_rfl) (by kernel_rfl) (by kernel_rfl) (fun _ _ _ h => h) (Or.inr ⟨by rfl, rfl⟩) (by assumption) ?_
            (try simp only [Act.put, List.getElem_toArray, List.getElem_cons_zero, List.getElem_cons_succ, List.setIfInBounds_toArray, List.set_cons_zero, List.set_cons_succ])
            refine wpAnyH_take (i := 14) (oi := ({ dst := some 51, op := .call { callee := .builtin .len, args := #[.tmp 50], argTypes := #[42] }, type := 3, pos := "ref.go:190", after := #[⟨13, .data⟩, ⟨11, .guard⟩], guard := some (11, false) } : Go.Oper)) (v := undef) rfl (by kernel_rfl) (by kernel_rfl) (by kernel_rfl) (fun _ _ _ h => h) (Or.inr ⟨by rfl, rfl⟩) (by assumption) ?_
            (try simp only [Act.put, List.getElem_toArray, List.getElem_cons_zero, List.getElem_cons_succ, List.setIfInBounds_toArray, List.set_cons_zero, List.set_cons_succ])
            refine wpAnyH_take (i := 15) (oi := ({ dst := some 52, op := .binOp .sub 3 (.tmp 51) (.const (.int .i64 1)) 3, type := 3, pos := "ref.go:190", after := #[⟨14, .data⟩, ⟨11, .guard⟩], guard := some (11, false) } : Go.Oper)) (v := undef) rfl (by kernel_rfl) (by kernel_rfl) (by kernel_rfl) (fun _ _ _ h => h) (Or.inr ⟨by rfl, rfl⟩) (by assumption) ?_
            (try simp only [Act.put, List.getElem_toArray, List.getElem_cons_zero, List.getElem_cons_succ, List.setIfInBounds_toArray, List.set_cons_zero, List.set_cons_succ])
            refine wpAnyH_take (i := 16) (oi := ({ dst := some 53, op := .indexAddr 42 (.tmp 49) (.tmp 52), type := 0, pos := "ref.go:190", after := #[⟨12, .data⟩, ⟨15, .data⟩, ⟨11, .guard⟩], guard := some (11, false) } : Go.Oper)) (v := undef) rfl (by kernel_rfl) (by kernel_rfl) (by kernel_rfl) (fun _ _ _ h => h) (Or.inr ⟨by rfl, rfl⟩) (by assumption) ?_
            (try simp only [Act.put, List.getElem_toArray, List.getElem_cons_zero, List.getElem_cons_succ, List.setIfInBounds_toArray, List.set_cons_zero, List.set_cons_succ])
            refine wpAnyH_take (i := 17) (oi := ({ dst := some 54, op := .fieldAddr 25 (.tmp 53) 0, type := 0, pos := "ref.go:190", after := #[⟨16, .data⟩, ⟨11, .guard⟩], guard := some (11, false) } : Go.Oper)) (v := undef) rfl (by kernel_rfl) (by kernel_rfl) (by kernel_rfl) (fun _ _ _ h => h) (Or.inr ⟨by rfl, rfl⟩) (by assumption) ?_
            (try simp only [Act.put, List.getElem_toArray, List.getElem_cons_zero, List.getElem_cons_succ, List.setIfInBounds_toArray, List.set_cons_zero, List.set_cons_succ])
            refine wpAnyH_take (i := 18) (oi := ({ dst := some 55, op := .load 22 (.tmp 54), type := 22, pos := "ref.go:190", after := #[⟨17, .data⟩, ⟨11, .guard⟩], guard := some (11, false) } : Go.Oper)) (v := undef) rfl (by kernel_rfl) (by kernel_rfl) (by kernel_rfl) (fun _ _ _ h => h) (Or.inr ⟨by rfl, rfl⟩) (by assumption) ?_
            (try simp only [Act.put, List.getElem_toArray, List.getElem_cons_zero, List.getElem_cons_succ, List.setIfInBounds_toArray, List.set_cons_zero, List.set_cons_succ])
            refine wpAnyH_take (i := 19) (oi := ({ dst := some 56, op := .convert 22 9 (.tmp 55), type := 9, pos := "ref.go:190", after := #[⟨18, .data⟩, ⟨11, .guard⟩], guard := some (11, false) } : Go.Oper)) (v := undef) rfl (by kernel_rfl) (by kernel_rfl) (by kernel_rfl) (fun _ _ _ h => h) (Or.inr ⟨by rfl, rfl⟩) (by assumption) ?_
            (try simp only [Act.put, List.getElem_toArray, List.getElem_cons_zero, List.getElem_cons_succ, List.setIfInBounds_toArray, List.set_cons_zero, List.set_cons_succ])
            refine wpAnyH_take (i := 20) (oi := ({ dst := some 57, op := .move (.tmp 0), type := 42, pos := "ref.go:190", after := #[⟨11, .guard⟩], guard := some (11, false) } : Go.Oper)) (v := undef) rfl (by kernel_rfl) (by kernel_rfl) (by kernel_rfl) (fun _ _ _ h => h) (Or.inr ⟨by rfl, rfl⟩) (by assumption) ?_
            (try simp only [Act.put, List.getElem_toArray, List.getElem_cons_zero, List.getElem_cons_succ, List.setIfInBounds_toArray, List.set_cons_zero, List.set_cons_succ])
            refine wpAnyH_take (i := 21) (oi := ({ dst := some 58, op := .move (.tmp 6), type := 3, pos := "ref.go:190", after := #[⟨11, .guard⟩], guard := some (11, false) } : Go.Oper)) (v := undef) rfl (by kernel_rfl) (by kernel_rfl) (by kernel_rfl) (fun _ _ _ h => h) (Or.inr ⟨by rfl, rfl⟩) (by assumption) ?_
            (try simp only [Act.put, List.getElem_toArray, List.getElem_cons_zero, List.getElem_cons_succ, List.setIfInBounds_toArray, List.set_cons_zero, List.set_cons_succ])
            refine wpAnyH_take (i := 22) (oi := ({ dst := some 59, op := .indexAddr 42 (.tmp 57) (.tmp 58), type := 0, pos := "ref.go:190", after := #[⟨20, .data⟩, ⟨21, .data⟩, ⟨11, .guard⟩], guard := some (11, false) } : Go.Oper)) (v := undef) rfl (by kernel_rfl) (by kernel_rfl) (by kernel_rfl) (fun _ _ _ h => h) (Or.inr ⟨by rfl, rfl⟩) (by assumption) ?_
            (try simp only [Act.put, List.getElem_toArray, List.getElem_cons_zero, List.getElem_cons_succ, List.setIfInBounds_toArray, List.set_cons_zero, List.set_cons_succ])
            refine wpAnyH_take (i := 23) (oi := ({ dst := some 60, op := .fieldAddr 25 (.tmp 59) 0, type := 0, pos := "ref.go:190", after := #[⟨22, .data⟩, ⟨11, .guard⟩], guard := some (11, false) } : Go.Oper)) (v := undef) rfl (by kernel_rfl) (by kernel_rfl) (by kernel_rfl) (fun _ _ _ h => h) (Or.inr ⟨by rfl, rfl⟩) (by assumption) ?_
            (try simp only [Act.put, List.getElem_toArray, List.getElem_cons_zero, List.getElem_cons_succ, List.setIfInBounds_toArray, List.set_cons_zero, List.set_cons_succ])
            refine wpAnyH_take (i := 24) (oi := ({ dst := some 61, op := .load 22 (.tmp 60), type := 22, pos := "ref.go:190", after := #[⟨23, .data⟩, ⟨11, .guard⟩], guard := some (11, false) } : Go.Oper)) (v := undef) rfl (by kernel_rfl) (by kernel_rfl) (by kernel_rfl) (fun _ _ _ h => h) (Or.inr ⟨by rfl, rfl⟩) (by assumption) ?_
            (try simp only [Act.put, List.getElem_toArray, List.getElem_cons_zero, List.getElem_cons_succ, List.setIfInBounds_toArray, List.set_cons_zero, List.set_cons_succ])
            refine wpAnyH_take (i := 25) (oi := ({ dst := some 62, op := .convert 22 9 (.tmp 61), type := 9, pos := "ref.go:190", after := #[⟨24, .data⟩, ⟨11, .guard⟩], guard := some (11, false) } : Go.Oper)) (v := undef) rfl (by kernel_rfl) (by kernel_rfl) (by kernel_rfl) (fun _ _ _ h => h) (Or.inr ⟨by rfl, rfl⟩) (by assumption) ?_
            (try simp only [Act.put, List.getElem_toArray, List.getElem_cons_zero, List.getElem_cons_succ, List.setIfInBounds_toArray, List.set_cons_zero, List.set_cons_succ])
            refine wpAnyH_take (i := 26) (oi := ({ dst := some 63, op := .binOp .neq 9 (.tmp 56) (.tmp 62) 9, type := 4, pos := "ref.go:190", after := #[⟨19, .data⟩, ⟨25, .data⟩, ⟨11, .guard⟩], guard := some (11, false) } : Go.Oper)) (v := undef) rfl (by kernel_rfl) (by kernel_rfl) (by kernel_rfl) (fun _ _ _ h => h) (Or.inr ⟨by rfl, rfl⟩) (by assumption) ?_
            (try simp only [Act.put, List.getElem_toArray, List.getElem_cons_zero, List.getElem_cons_succ, List.setIfInBounds_toArray, List.set_cons_zero, List.set_cons_succ])
            refine wpAnyH_take (i := 27) (oi := ({ dst := some 64, op := .pick (.tmp 48) (.const (.bool true)) (.tmp 63), type := 4, pos := "ref.go:190", after := #[⟨11, .data⟩, ⟨26, .data⟩, ⟨7, .guard⟩], guard := some (7, true) } : Go.Oper)) (v := undef) rfl (by kernel_rfl) (by kernel_rfl) (by kernel_rfl) (fun _ _ _ h => h) (Or.inr ⟨by rfl, rfl⟩) (by assumption) ?_
            (try simp only [Act.put, List.getElem_toArray, List.getElem_cons_zero, List.getElem_cons_succ, List.setIfInBounds_toArray, List.set_cons_zero, List.set_cons_succ])
            refine wpAnyH_take (i := 28) (oi := ({ dst := some 65, op := .pick (.tmp 44) (.tmp 64) (.const (.bool false)), type := 4, pos := "ref.go:190", after := #[⟨7, .data⟩, ⟨27, .data⟩], guard := none } : Go.Oper)) (v := ?v34) rfl (by kernel_rfl) (by kernel_rfl) (by kernel_rfl) (fun _ _ _ h => h) (Or.inl ⟨by rfl, ?hy34⟩) (by assumption) ?rest34
            case hy34 => (intro w hSw; (try dsimp only at hSw); go_simp; (try with_reducible rfl))
            (try simp only [Act.put, List.getElem_toArray, List.getElem_cons_zero, List.getElem_cons_succ, List.setIfInBounds_toArray, List.set_cons_zero, List.set_cons_succ])
            refine wpAnyH_done (by kernel_rfl) ?_ _
            go_wp2
            go_roundw
            case rel =>
              refine ⟨k + 1, by go_num, by omega, Lib.hid (ris_go HKE.out h1.out (by rw [HXE.out]; exact HGO.out)), Lib.hid ?_, (by with_reducible (repeat (first | exact Ext.rfl_ _ | assumption | refine Ext.drew ?_ | refine Ext.drewN ?_ _ | refine Ext.alloc ?_ _ | refine Ext.trans ?_ (by assumption))))⟩
              rw [List.take_succ_eq_append_getElem HKE.out, HXE.out, HSK.out.1]; exact HO2.out.ext (by with_reducible (repeat (first | exact Ext.rfl_ _ | assumption | refine Ext.drew ?_ | refine Ext.drewN ?_ _ | refine Ext.alloc ?_ _ | refine Ext.trans ?_ (by assumption))))
            case measure => simp [intOf]; omega
        · obtain ⟨_, _, A3, n3, c3, A4, n4, c4, y, e2, hy, ⟨p0, p1, p2, p3⟩, hry⟩ := HL.out.at_ (k - 1) (by omega)
          cases e2
          have hS2 : ∀ W, Ext w W → (W.cell? ⟨b, o + k * 4, none⟩ = some (.slice A1 n1 c1') ∧ W.cell? ⟨b, o + k * 4 + 1, none⟩ = some (.int .i64 x.seq) ∧ W.cell? ⟨b, o + k * 4 + 2, none⟩ = some (.int .i64 x.kind) ∧ W.cell? ⟨b, o + k * 4 + 3, none⟩ = some (.slice A2 n2 c2')) ∧ (W.cell? ⟨b, o + (k - 1) * 4, none⟩ = some (.slice A3 n3 c3) ∧ W.cell? ⟨b, o + (k - 1) * 4 + 1, none⟩ = some (.int .i64 y.seq) ∧ W.cell? ⟨b, o + (k - 1) * 4 + 2, none⟩ = some (.int .i64 y.kind) ∧ W.cell? ⟨b, o + (k - 1) * 4 + 3, none⟩ = some (.slice A4 n4 c4)) := fun W K => ⟨HS.out W K, K.keeps _ _ _ p0, K.keeps _ _ _ p1, K.keeps _ _ _ p2, K.keeps _ _ _ p3⟩
          have HS2 := Lib.hid hS2
          have HRY := Lib.hid hry
          have hlast : (xs.take k).getLast? = some y := by rw [List.getLast?_eq_getElem?, List.length_take, Nat.min_eq_left (by have := HKE.out; omega), List.getElem?_take, if_pos (by omega)]; exact hy
          have HLAST := Lib.hid hlast
          have hwr : IntKind.i64.wrap ((k : Int) - 1) = ((k - 1 : Nat) : Int) := by rw [IntKind.wrap_i64]; omega
          have hlt : ((k - 1 : Nat) : Int) < (n : Int) := by omega
          have hpos : (0 : Int) < (k : Int) := by omega
          have hpos2 : 0 < k := hk0
          clear hS2 hry hlast hy p0 p1 p2 p3
          by_cases hc : 0 ≤ cmpE y x
          · have hbe : ¬ behO (xs.take k).getLast? x = true := by rw [HLAST.out]; simp [behO]; intro _; omega
            have HBE := Lib.hid hbe
            clear hbe
            have hrr : ris none xs = xs.take k := ris_end HKE.out h1.out (by rw [HXE.out]; exact HBE.out)
            have HRR := Lib.hid hrr
            clear hrr
            go_wp2
            refine wp_region_held_drew (S := (fun W => (W.cell? ⟨b, o + k * 4, none⟩ = some (.slice A1 n1 c1') ∧ W.cell? ⟨b, o + k * 4 + 1, none⟩ = some (.int .i64 x.seq) ∧ W.cell? ⟨b, o + k * 4 + 2, none⟩ = some (.int .i64 x.kind) ∧ W.cell? ⟨b, o + k * 4 + 3, none⟩ = some (.slice A2 n2 c2')) ∧ (W.cell? ⟨b, o + (k - 1) * 4, none⟩ = some (.slice A3 n3 c3) ∧ W.cell? ⟨b, o + (k - 1) * 4 + 1, none⟩ = some (.int .i64 y.seq) ∧ W.cell? ⟨b, o + (k - 1) * 4 + 2, none⟩ = some (.int .i64 y.kind) ∧ W.cell? ⟨b, o + (k - 1) * 4 + 3, none⟩ = some (.slice A4 n4 c4)))) (by kernel_rfl) (by (try dsimp only); exact HS2.out _ (by with_reducible (repeat (first | exact Ext.rfl_ _ | assumption | refine Ext.drew ?_ | refine Ext.drewN ?_ _ | refine Ext.alloc ?_ _ | refine Ext.trans ?_ (by assumption))))) (fun hHeld => ?_)
            refine wpAnyH_take (i := 0) (oi := ({ dst := some 13, op := .move (.tmp 0), type := 42, pos := "ref.go:187", after := #[], guard := none } : Go.Oper)) (v := ?v35) rfl (by kernel_rfl) (by kernel_rfl) (by kernel_rfl) (fun _ _ _ h => h) (Or.inl ⟨by rfl, ?hy35⟩) (by assumption) ?rest35
            case hy35 => (intro w hSw; (try dsimp only at hSw); go_simp; (try with_reducible rfl))
            (try simp only [Act.put, List.getElem_toArray, List.getElem_cons_zero, List.getElem_cons_succ, List.setIfInBounds_toArray, List.set_cons_zero, List.set_cons_succ])
            refine wpAnyH_take (i := 1) (oi := ({ dst := some 14, op := .move (.tmp 6), type := 3, pos := "ref.go:187", after := #[], guard := none } : Go.Oper)) (v := ?v36) rfl (by kernel_rfl) (by kernel_rfl) (by kernel_rfl) (fun _ _ _ h => h) (Or.inl ⟨by rfl, ?hy36⟩) (by assumption) ?rest36
            case hy36 => (intro w hSw; (try dsimp only at hSw); go_simp; (try with_reducible rfl))
            (try simp only [Act.put, List.getElem_toArray, List.getElem_cons_zero, List.getElem_cons_succ, List.setIfInBounds_toArray, List.set_cons_zero, List.set_cons_succ])
            refine wpAnyH_take (i := 2) (oi := ({ dst := some 15, op := .indexAddr 42 (.tmp 13) (.tmp 14), type := 0, pos := "ref.go:187", after := #[⟨0, .data⟩, ⟨1, .data⟩], guard := none } : Go.Oper)) (v := ?v37) rfl (by kernel_rfl) (by kernel_rfl) (by kernel_rfl) (fun _ _ _ h => h) (Or.inl ⟨by rfl, ?hy37⟩) (by assumption) ?rest37
            case hy37 => (intro w hSw; (try dsimp only at hSw); go_simp; (try with_reducible rfl))
            (try simp only [Act.put, List.getElem_toArray, List.getElem_cons_zero, List.getElem_cons_succ, List.setIfInBounds_toArray, List.set_cons_zero, List.set_cons_succ])
            refine wpAnyH_take (i := 3) (oi := ({ dst := some 16, op := .load 25 (.tmp 15), type := 25, pos := "ref.go:187", after := #[⟨2, .data⟩], guard := none } : Go.Oper)) (v := ?v38) rfl (by kernel_rfl) (by kernel_rfl) (by kernel_rfl) (fun _ _ _ h => h) (Or.inl ⟨by rfl, ?hy38⟩) (by assumption) ?rest38
            case hy38 => (intro w hSw; (try dsimp only at hSw); go_simp; (try with_reducible rfl))
            (try simp only [Act.put, List.getElem_toArray, List.getElem_cons_zero, List.getElem_cons_succ, List.setIfInBounds_toArray, List.set_cons_zero, List.set_cons_succ])
            refine wpAnyH_ready (rs := [4]) (by kernel_rfl) (by simp) ?_
            refine AllReadyH.cons (o := ({ dst := some 17, op := .call { callee := .value (.func 18), args := #[.tmp 16], argTypes := #[25] }, type := 4, pos := "ref.go:187", after := #[⟨3, .data⟩], guard := none } : Go.Oper)) rfl (fun K hK => ?_) AllReadyH.nil
            go_simp
            (first | (go_at_call 18; refine (rmay_any _ x _ (HR.out.ext (by with_reducible (repeat (first | exact Ext.rfl_ _ | assumption | refine Ext.drew ?_ | refine Ext.drewN ?_ _ | refine Ext.alloc ?_ _ | refine Ext.trans ?_ (by assumption)))))).mono ?_; rintro e w1 ⟨rfl, hw1⟩; rw [HM.out]) | (go_at_call 27; refine (rcompare_any _ _ y x _ (HRY.out.ext (by with_reducible (repeat (first | exact Ext.rfl_ _ | assumption | refine Ext.drew ?_ | refine Ext.drewN ?_ _ | refine Ext.alloc ?_ _ | refine Ext.trans ?_ (by assumption))))) (HR.out.ext (by with_reducible (repeat (first | exact Ext.rfl_ _ | assumption | refine Ext.drew ?_ | refine Ext.drewN ?_ _ | refine Ext.alloc ?_ _ | refine Ext.trans ?_ (by assumption)))))).mono ?_; rintro e w2 ⟨rfl, hw2⟩))
            (try (go_wp2_with fail))
            refine hK.out _ _ (by (try dsimp only); exact HS2.out _ (by with_reducible (repeat (first | exact Ext.rfl_ _ | assumption | refine Ext.drew ?_ | refine Ext.drewN ?_ _ | refine Ext.alloc ?_ _ | refine Ext.trans ?_ (by assumption))))) (fun hHeld => ?_)
            clear hK K
            (try simp only [Act.put, List.getElem_toArray, List.getElem_cons_zero, List.getElem_cons_succ, List.setIfInBounds_toArray, List.set_cons_zero, List.set_cons_succ])
            refine wpAnyH_take (i := 5) (oi := ({ dst := some 18, op := .unOp .not 4 (.tmp 17), type := 4, pos := "ref.go:187", after := #[⟨4, .data⟩], guard := none } : Go.Oper)) (v := ?v39) rfl (by kernel_rfl) (by kernel_rfl) (by kernel_rfl) (fun _ _ _ h => h) (Or.inl ⟨by rfl, ?hy39⟩) (by assumption) ?rest39
            case hy39 => (intro w hSw; (try dsimp only at hSw); go_simp; (try with_reducible rfl))
            (try simp only [Act.put, List.getElem_toArray, List.getElem_cons_zero, List.getElem_cons_succ, List.setIfInBounds_toArray, List.set_cons_zero, List.set_cons_succ])
            refine wpAnyH_take (i := 6) (oi := ({ dst := some 19, op := .move (.tmp 18), type := 4, pos := "ref.go:187", after := #[⟨5, .data⟩, ⟨4, .chain⟩], guard := none } : Go.Oper)) (v := ?v40) rfl (by kernel_rfl) (by kernel_rfl) (by kernel_rfl) (fun _ _ _ h => h) (Or.inl ⟨by rfl, ?hy40⟩) (by assumption) ?rest40
            case hy40 => (intro w hSw; (try dsimp only at hSw); go_simp; (try with_reducible rfl))
            (try simp only [Act.put, List.getElem_toArray, List.getElem_cons_zero, List.getElem_cons_succ, List.setIfInBounds_toArray, List.set_cons_zero, List.set_cons_succ])
            refine wpAnyH_take (i := 7) (oi := ({ dst := some 20, op := .move (.tmp 6), type := 3, pos := "ref.go:187", after := #[⟨6, .guard⟩], guard := some (6, false) } : Go.Oper)) (v := ?v41) rfl (by kernel_rfl) (by kernel_rfl) (by kernel_rfl) (fun _ _ _ h => h) (Or.inl ⟨by rfl, ?hy41⟩) (by assumption) ?rest41
            case hy41 => (intro w hSw; (try dsimp only at hSw); go_simp; (try with_reducible rfl))
            (try simp only [Act.put, List.getElem_toArray, List.getElem_cons_zero, List.getElem_cons_succ, List.setIfInBounds_toArray, List.set_cons_zero, List.set_cons_succ])
            refine wpAnyH_take (i := 8) (oi := ({ dst := some 21, op := .binOp .gtr 3 (.tmp 20) (.const (.int .i64 0)) 3, type := 4, pos := "ref.go:187", after := #[⟨7, .data⟩, ⟨6, .guard⟩], guard := some (6, false) } : Go.Oper)) (v := ?v42) rfl (by kernel_rfl) (by kernel_rfl) (by kernel_rfl) (fun _ _ _ h => h) (Or.inl ⟨by rfl, ?hy42⟩) (by assumption) ?rest42
            case hy42 => (intro w hSw; (try dsimp only at hSw); go_simp; (try with_reducible rfl))
            (try simp only [Act.put, List.getElem_toArray, List.getElem_cons_zero, List.getElem_cons_succ, List.setIfInBounds_toArray, List.set_cons_zero, List.set_cons_succ])
            refine wpAnyH_take (i := 9) (oi := ({ dst := some 22, op := .move (.tmp 21), type := 4, pos := "ref.go:187", after := #[⟨8, .data⟩, ⟨6, .chain⟩, ⟨6, .guard⟩], guard := some (6, false) } : Go.Oper)) (v := ?v43) rfl (by kernel_rfl) (by kernel_rfl) (by kernel_rfl) (fun _ _ _ h => h) (Or.inl ⟨by rfl, ?hy43⟩) (by assumption) ?rest43
            case hy43 => (intro w hSw; (try dsimp only at hSw); go_simp; (try with_reducible rfl))
            (try simp only [Act.put, List.getElem_toArray, List.getElem_cons_zero, List.getElem_cons_succ, List.setIfInBounds_toArray, List.set_cons_zero, List.set_cons_succ])
            refine wpAnyH_take (i := 10) (oi := ({ dst := some 23, op := .move (.tmp 0), type := 42, pos := "ref.go:187", after := #[⟨9, .guard⟩], guard := some (9, true) } : Go.Oper)) (v := ?v44) rfl (by kernel_rfl) (by kernel_rfl) (by kernel_rfl) (fun _ _ _ h => h) (Or.inl ⟨by rfl, ?hy44⟩) (by assumption) ?rest44
            case hy44 => (intro w hSw; (try dsimp only at hSw); go_simp; (try with_reducible rfl))
            (try simp only [Act.put, List.getElem_toArray, List.getElem_cons_zero, List.getElem_cons_succ, List.setIfInBounds_toArray, List.set_cons_zero, List.set_cons_succ])
            refine wpAnyH_take (i := 11) (oi := ({ dst := some 24, op := .move (.tmp 6), type := 3, pos := "ref.go:187", after := #[⟨9, .guard⟩], guard := some (9, true) } : Go.Oper)) (v := ?v45) rfl (by kernel_rfl) (by kernel_rfl) (by kernel_rfl) (fun _ _ _ h => h) (Or.inl ⟨by rfl, ?hy45⟩) (by assumption) ?rest45
            case hy45 => (intro w hSw; (try dsimp only at hSw); go_simp; (try with_reducible rfl))
            (try simp only [Act.put, List.getElem_toArray, List.getElem_cons_zero, List.getElem_cons_succ, List.setIfInBounds_toArray, List.set_cons_zero, List.set_cons_succ])
            refine wpAnyH_take (i := 12) (oi := ({ dst := some 25, op := .binOp .sub 3 (.tmp 24) (.const (.int .i64 1)) 3, type := 3, pos := "ref.go:187", after := #[⟨11, .data⟩, ⟨9, .guard⟩], guard := some (9, true) } : Go.Oper)) (v := ?v46) rfl (by kernel_rfl) (by kernel_rfl) (by kernel_rfl) (fun _ _ _ h => h) (Or.inl ⟨by rfl, ?hy46⟩) (by assumption) ?rest46
            case hy46 => (intro w hSw; (try dsimp only at hSw); go_simp; (try with_reducible rfl))
            (try simp only [Act.put, List.getElem_toArray, List.getElem_cons_zero, List.getElem_cons_succ, List.setIfInBounds_toArray, List.set_cons_zero, List.set_cons_succ])
            refine wpAnyH_take (i := 13) (oi := ({ dst := some 26, op := .indexAddr 42 (.tmp 23) (.tmp 25), type := 0, pos := "ref.go:187", after := #[⟨10, .data⟩, ⟨12, .data⟩, ⟨9, .guard⟩], guard := some (9, true) } : Go.Oper)) (v := ?v47) rfl (by kernel_rfl) (by kernel_rfl) (by kernel_rfl) (fun _ _ _ h => h) (Or.inl ⟨by rfl, ?hy47⟩) (by assumption) ?rest47
            case hy47 => (intro w hSw; (try dsimp only at hSw); go_simp; (try with_reducible rfl))
            (try simp only [Act.put, List.getElem_toArray, List.getElem_cons_zero, List.getElem_cons_succ, List.setIfInBounds_toArray, List.set_cons_zero, List.set_cons_succ])
            refine wpAnyH_take (i := 14) (oi := ({ dst := some 27, op := .load 25 (.tmp 26), type := 25, pos := "ref.go:187", after := #[⟨13, .data⟩, ⟨9, .guard⟩], guard := some (9, true) } : Go.Oper)) (v := ?v48) rfl (by kernel_rfl) (by kernel_rfl) (by kernel_rfl) (fun _ _ _ h => h) (Or.inl ⟨by rfl, ?hy48⟩) (by assumption) ?rest48
            case hy48 => (intro w hSw; (try dsimp only at hSw); go_simp; (try with_reducible rfl))
            (try simp only [Act.put, List.getElem_toArray, List.getElem_cons_zero, List.getElem_cons_succ, List.setIfInBounds_toArray, List.set_cons_zero, List.set_cons_succ])
            refine wpAnyH_take (i := 15) (oi := ({ dst := some 28, op := .move (.tmp 0), type := 42, pos := "ref.go:187", after := #[⟨9, .guard⟩], guard := some (9, true) } : Go.Oper)) (v := ?v49) rfl (by kernel_rfl) (by kernel_rfl) (by kernel_rfl) (fun _ _ _ h => h) (Or.inl ⟨by rfl, ?hy49⟩) (by assumption) ?rest49
            case hy49 => (intro w hSw; (try dsimp only at hSw); go_simp; (try with_reducible rfl))
            (try simp only [Act.put, List.getElem_toArray, List.getElem_cons_zero, List.getElem_cons_succ, List.setIfInBounds_toArray, List.set_cons_zero, List.set_cons_succ])
            refine wpAnyH_take (i := 16) (oi := ({ dst := some 29, op := .move (.tmp 6), type := 3, pos := "ref.go:187", after := #[⟨9, .guard⟩], guard := some (9, true) } : Go.Oper)) (v := ?v50) rfl (by kernel_rfl) (by kernel_rfl) (by kernel_rfl) (fun _ _ _ h => h) (Or.inl ⟨by rfl, ?hy50⟩) (by assumption) ?rest50
            case hy50 => (intro w hSw; (try dsimp only at hSw); go_simp; (try with_reducible rfl))
            (try simp only [Act.put, List.getElem_toArray, List.getElem_cons_zero, List.getElem_cons_succ, List.setIfInBounds_toArray, List.set_cons_zero, List.set_cons_succ])
            refine wpAnyH_take (i := 17) (oi := ({ dst := some 30, op := .indexAddr 42 (.tmp 28) (.tmp 29), type := 0, pos := "ref.go:187", after := #[⟨15, .data⟩, ⟨16, .data⟩, ⟨9, .guard⟩], guard := some (9, true) } : Go.Oper)) (v := ?v51) rfl (by kernel_rfl) (by kernel_rfl) (by kernel_rfl) (fun _ _ _ h => h) (Or.inl ⟨by rfl, ?hy51⟩) (by assumption) ?rest51
            case hy51 => (intro w hSw; (try dsimp only at hSw); go_simp; (try with_reducible rfl))
            (try simp only [Act.put, List.getElem_toArray, List.getElem_cons_zero, List.getElem_cons_succ, List.setIfInBounds_toArray, List.set_cons_zero, List.set_cons_succ])
            refine wpAnyH_take (i := 18) (oi := ({ dst := some 31, op := .load 25 (.tmp 30), type := 25, pos := "ref.go:187", after := #[⟨17, .data⟩, ⟨9, .guard⟩], guard := some (9, true) } : Go.Oper)) (v := ?v52) rfl (by kernel_rfl) (by kernel_rfl) (by kernel_rfl) (fun _ _ _ h => h) (Or.inl ⟨by rfl, ?hy52⟩) (by assumption) ?rest52
            case hy52 => (intro w hSw; (try dsimp only at hSw); go_simp; (try with_reducible rfl))
            (try simp only [Act.put, List.getElem_toArray, List.getElem_cons_zero, List.getElem_cons_succ, List.setIfInBounds_toArray, List.set_cons_zero, List.set_cons_succ])
            refine wpAnyH_ready (rs := [19]) (by kernel_rfl) (by simp) ?_
            refine AllReadyH.cons (o := ({ dst := some 32, op := .call { callee := .value (.func 27), args := #[.tmp 27, .tmp 31], argTypes := #[25, 25] }, type := 3, pos := "ref.go:187", after := #[⟨14, .data⟩, ⟨18, .data⟩, ⟨9, .chain⟩, ⟨9, .guard⟩], guard := some (9, true) } : Go.Oper)) rfl (fun K hK => ?_) AllReadyH.nil
            go_simp
            (first | (go_at_call 18; refine (rmay_any _ x _ (HR.out.ext (by with_reducible (repeat (first | exact Ext.rfl_ _ | assumption | refine Ext.drew ?_ | refine Ext.drewN ?_ _ | refine Ext.alloc ?_ _ | refine Ext.trans ?_ (by assumption)))))).mono ?_; rintro e w1 ⟨rfl, hw1⟩; rw [HM.out]) | (go_at_call 27; refine (rcompare_any _ _ y x _ (HRY.out.ext (by with_reducible (repeat (first | exact Ext.rfl_ _ | assumption | refine Ext.drew ?_ | refine Ext.drewN ?_ _ | refine Ext.alloc ?_ _ | refine Ext.trans ?_ (by assumption))))) (HR.out.ext (by with_reducible (repeat (first | exact Ext.rfl_ _ | assumption | refine Ext.drew ?_ | refine Ext.drewN ?_ _ | refine Ext.alloc ?_ _ | refine Ext.trans ?_ (by assumption)))))).mono ?_; rintro e w2 ⟨rfl, hw2⟩))
            (try (go_wp2_with fail))
            refine hK.out _ _ (by (try dsimp only); exact HS2.out _ (by with_reducible (repeat (first | exact Ext.rfl_ _ | assumption | refine Ext.drew ?_ | refine Ext.drewN ?_ _ | refine Ext.alloc ?_ _ | refine Ext.trans ?_ (by assumption))))) (fun hHeld => ?_)
            clear hK K
            (try simp only [Act.put, List.getElem_toArray, List.getElem_cons_zero, List.getElem_cons_succ, List.setIfInBounds_toArray, List.set_cons_zero, List.set_cons_succ])
            refine wpAnyH_take (i := 20) (oi := ({ dst := some 33, op := .binOp .geq 3 (.tmp 32) (.const (.int .i64 0)) 3, type := 4, pos := "ref.go:187", after := #[⟨19, .data⟩, ⟨9, .guard⟩], guard := some (9, true) } : Go.Oper)) (v := ?v53) rfl (by kernel_rfl) (by kernel_rfl) (by kernel_rfl) (fun _ _ _ h => h) (Or.inl ⟨by rfl, ?hy53⟩) (by assumption) ?rest53
            case hy53 => (intro w hSw; (try dsimp only at hSw); go_simp; (try with_reducible rfl))
            (try simp only [Act.put, List.getElem_toArray, List.getElem_cons_zero, List.getElem_cons_succ, List.setIfInBounds_toArray, List.set_cons_zero, List.set_cons_succ])
            refine wpAnyH_take (i := 21) (oi := ({ dst := some 34, op := .pick (.tmp 22) (.tmp 33) (.const (.bool false)), type := 4, pos := "ref.go:187", after := #[⟨9, .data⟩, ⟨20, .data⟩, ⟨6, .guard⟩], guard := some (6, false) } : Go.Oper)) (v := ?v54) rfl (by kernel_rfl) (by kernel_rfl) (by kernel_rfl) (fun _ _ _ h => h) (Or.inl ⟨by rfl, ?hy54⟩) (by assumption) ?rest54
            case hy54 => (intro w hSw; (try dsimp only at hSw); go_simp; (try with_reducible rfl))
            (try simp only [Act.put, List.getElem_toArray, List.getElem_cons_zero, List.getElem_cons_succ, List.setIfInBounds_toArray, List.set_cons_zero, List.set_cons_succ])
            refine wpAnyH_take (i := 22) (oi := ({ dst := some 35, op := .pick (.tmp 19) (.const (.bool true)) (.tmp 34), type := 4, pos := "ref.go:187", after := #[⟨6, .data⟩, ⟨21, .data⟩], guard := none } : Go.Oper)) (v := ?v55) rfl (by kernel_rfl) (by kernel_rfl) (by kernel_rfl) (fun _ _ _ h => h) (Or.inl ⟨by rfl, ?hy55⟩) (by assumption) ?rest55
            case hy55 => (intro w hSw; (try dsimp only at hSw); go_simp; (try with_reducible rfl))
            (try simp only [Act.put, List.getElem_toArray, List.getElem_cons_zero, List.getElem_cons_succ, List.setIfInBounds_toArray, List.set_cons_zero, List.set_cons_succ])
            refine wpAnyH_done (by kernel_rfl) ?_ _
            go_wp2
            go_ret
            exact ⟨_, rfl, by rw [HRR.out]; exact OwnL.ext ho.out (by with_reducible (repeat (first | exact Ext.rfl_ _ | assumption | refine Ext.drew ?_ | refine Ext.drewN ?_ _ | refine Ext.alloc ?_ _ | refine Ext.trans ?_ (by assumption)))), (by with_reducible (repeat (first | exact Ext.rfl_ _ | assumption | refine Ext.drew ?_ | refine Ext.drewN ?_ _ | refine Ext.alloc ?_ _ | refine Ext.trans ?_ (by assumption))))⟩
          · have hc' : decide (0 ≤ cmpE y x) = false := decide_eq_false hc
            have hgo : behO (xs.take k).getLast? x = true := by rw [HLAST.out]; simp [behO, HM.out]; omega
            have HGO := Lib.hid hgo
            clear hgo
            go_wp2
            refine wp_region_held_drew (S := (fun W => (W.cell? ⟨b, o + k * 4, none⟩ = some (.slice A1 n1 c1') ∧ W.cell? ⟨b, o + k * 4 + 1, none⟩ = some (.int .i64 x.seq) ∧ W.cell? ⟨b, o + k * 4 + 2, none⟩ = some (.int .i64 x.kind) ∧ W.cell? ⟨b, o + k * 4 + 3, none⟩ = some (.slice A2 n2 c2')) ∧ (W.cell? ⟨b, o + (k - 1) * 4, none⟩ = some (.slice A3 n3 c3) ∧ W.cell? ⟨b, o + (k - 1) * 4 + 1, none⟩ = some (.int .i64 y.seq) ∧ W.cell? ⟨b, o + (k - 1) * 4 + 2, none⟩ = some (.int .i64 y.kind) ∧ W.cell? ⟨b, o + (k - 1) * 4 + 3, none⟩ = some (.slice A4 n4 c4)))) (by kernel_rfl) (by (try dsimp only); exact HS2.out _ (by with_reducible (repeat (first | exact Ext.rfl_ _ | assumption | refine Ext.drew ?_ | refine Ext.drewN ?_ _ | refine Ext.alloc ?_ _ | refine Ext.trans ?_ (by assumption))))) (fun hHeld => ?_)
            refine wpAnyH_take (i := 0) (oi := ({ dst := some 13, op := .move (.tmp 0), type := 42, pos := "ref.go:187", after := #[], guard := none } : Go.Oper)) (v := ?v56) rfl (by kernel_rfl) (by kernel_rfl) (by kernel_rfl) (fun _ _ _ h => h) (Or.inl ⟨by rfl, ?hy56⟩) (by assumption) ?rest56
            case hy56 => (intro w hSw; (try dsimp only at hSw); go_simp; (try with_reducible rfl))
            (try simp only [Act.put, List.getElem_toArray, List.getElem_cons_zero, List.getElem_cons_succ, List.setIfInBounds_toArray, List.set_cons_zero, List.set_cons_succ])
            refine wpAnyH_take (i := 1) (oi := ({ dst := some 14, op := .move (.tmp 6), type := 3, pos := "ref.go:187", after := #[], guard := none } : Go.Oper)) (v := ?v57) rfl (by kernel_rfl) (by kernel_rfl) (by kernel_rfl) (fun _ _ _ h => h) (Or.inl ⟨by rfl, ?hy57⟩) (by assumption) ?rest57
            case hy57 => (intro w hSw; (try dsimp only at hSw); go_simp; (try with_reducible rfl))
            (try simp only [Act.put, List.getElem_toArray, List.getElem_cons_zero, List.getElem_cons_succ, List.setIfInBounds_toArray, List.set_cons_zero, List.set_cons_succ])
            refine wpAnyH_take (i := 2) (oi := ({ dst := some 15, op := .indexAddr 42 (.tmp 13) (.tmp 14), type := 0, pos := "ref.go:187", after := #[⟨0, .data⟩, ⟨1, .data⟩], guard := none } : Go.Oper)) (v := ?v58) rfl (by kernel_rfl) (by kernel_rfl) (by kernel_rfl) (fun _ _ _ h => h) (Or.inl ⟨by rfl, ?hy58⟩) (by assumption) ?rest58
            case hy58 => (intro w hSw; (try dsimp only at hSw); go_simp; (try with_reducible rfl))
            (try simp only [Act.put, List.getElem_toArray, List.getElem_cons_zero, List.getElem_cons_succ, List.setIfInBounds_toArray, List.set_cons_zero, List.set_cons_succ])
            refine wpAnyH_take (i := 3) (oi := ({ dst := some 16, op := .load 25 (.tmp 15), type := 25, pos := "ref.go:187", after := #[⟨2, .data⟩], guard := none } : Go.Oper)) (v := ?v59) rfl (by kernel_rfl) (by kernel_rfl) (by kernel_rfl) (fun _ _ _ h => h) (Or.inl ⟨by rfl, ?hy59⟩) (by assumption) ?rest59
            case hy59 => (intro w hSw; (try dsimp only at hSw); go_simp; (try with_reducible rfl))
            (try simp only [Act.put, List.getElem_toArray, List.getElem_cons_zero, List.getElem_cons_succ, List.setIfInBounds_toArray, List.set_cons_zero, List.set_cons_succ])
            refine wpAnyH_ready (rs := [4]) (by kernel_rfl) (by simp) ?_
            refine AllReadyH.cons (o := ({ dst := some 17, op := .call { callee := .value (.func 18), args := #[.tmp 16], argTypes := #[25] }, type := 4, pos := "ref.go:187", after := #[⟨3, .data⟩], guard := none } : Go.Oper)) rfl (fun K hK => ?_) AllReadyH.nil
            go_simp
            (first | (go_at_call 18; refine (rmay_any _ x _ (HR.out.ext (by with_reducible (repeat (first | exact Ext.rfl_ _ | assumption | refine Ext.drew ?_ | refine Ext.drewN ?_ _ | refine Ext.alloc ?_ _ | refine Ext.trans ?_ (by assumption)))))).mono ?_; rintro e w1 ⟨rfl, hw1⟩; rw [HM.out]) | (go_at_call 27; refine (rcompare_any _ _ y x _ (HRY.out.ext (by with_reducible (repeat (first | exact Ext.rfl_ _ | assumption | refine Ext.drew ?_ | refine Ext.drewN ?_ _ | refine Ext.alloc ?_ _ | refine Ext.trans ?_ (by assumption))))) (HR.out.ext (by with_reducible (repeat (first | exact Ext.rfl_ _ | assumption | refine Ext.drew ?_ | refine Ext.drewN ?_ _ | refine Ext.alloc ?_ _ | refine Ext.trans ?_ (by assumption)))))).mono ?_; rintro e w2 ⟨rfl, hw2⟩))
            (try (go_wp2_with fail))
            refine hK.out _ _ (by (try dsimp only); exact HS2.out _ (by with_reducible (repeat (first | exact Ext.rfl_ _ | assumption | refine Ext.drew ?_ | refine Ext.drewN ?_ _ | refine Ext.alloc ?_ _ | refine Ext.trans ?_ (by assumption))))) (fun hHeld => ?_)
            clear hK K
            (try simp only [Act.put, List.getElem_toArray, List.getElem_cons_zero, List.getElem_cons_succ, List.setIfInBounds_toArray, List.set_cons_zero, List.set_cons_succ])
            refine wpAnyH_take (i := 5) (oi := ({ dst := some 18, op := .unOp .not 4 (.tmp 17), type := 4, pos := "ref.go:187", after := #[⟨4, .data⟩], guard := none } : Go.Oper)) (v := ?v60) rfl (by kernel_rfl) (by kernel_rfl) (by kernel_rfl) (fun _ _ _ h => h) (Or.inl ⟨by rfl, ?hy60⟩) (by assumption) ?rest60
            case hy60 => (intro w hSw; (try dsimp only at hSw); go_simp; (try with_reducible rfl))
            (try simp only [Act.put, List.getElem_toArray, List.getElem_cons_zero, List.getElem_cons_succ, List.setIfInBounds_toArray, List.set_cons_zero, List.set_cons_succ])
            refine wpAnyH_take (i := 6) (oi := ({ dst := some 19, op := .move (.tmp 18), type := 4, pos := "ref.go:187", after := #[⟨5, .data⟩, ⟨4, .chain⟩], guard := none } : Go.Oper)) (v := ?v61) rfl (by kernel_rfl) (by kernel_rfl) (by kernel_rfl) (fun _ _ _ h => h) (Or.inl ⟨by rfl, ?hy61⟩) (by assumption) ?rest61
            case hy61 => (intro w hSw; (try dsimp only at hSw); go_simp; (try with_reducible rfl))
            (try simp only [Act.put, List.getElem_toArray, List.getElem_cons_zero, List.getElem_cons_succ, List.setIfInBounds_toArray, List.set_cons_zero, List.set_cons_succ])
            refine wpAnyH_take (i := 7) (oi := ({ dst := some 20, op := .move (.tmp 6), type := 3, pos := "ref.go:187", after := #[⟨6, .guard⟩], guard := some (6, false) } : Go.Oper)) (v := ?v62) rfl (by kernel_rfl) (by kernel_rfl) (by kernel_rfl) (fun _ _ _ h => h) (Or.inl ⟨by rfl, ?hy62⟩) (by assumption) ?rest62
            case hy62 => (intro w hSw; (try dsimp only at hSw); go_simp; (try with_reducible rfl))
            (try simp only [Act.put, List.getElem_toArray, List.getElem_cons_zero, List.getElem_cons_succ, List.setIfInBounds_toArray, List.set_cons_zero, List.set_cons_succ])
            refine wpAnyH_take (i := 8) (oi := ({ dst := some 21, op := .binOp .gtr 3 (.tmp 20) (.const (.int .i64 0)) 3, type := 4, pos := "ref.go:187", after := #[⟨7, .data⟩, ⟨6, .guard⟩], guard := some (6, false) } : Go.Oper)) (v := ?v63) rfl (by kernel_rfl) (by kernel_rfl) (by kernel_rfl) (fun _ _ _ h => h) (Or.inl ⟨by rfl, ?hy63⟩) (by assumption) ?rest63
            case hy63 => (intro w hSw; (try dsimp only at hSw); go_simp; (try with_reducible rfl))
            (try simp only [Act.put, List.getElem_toArray, List.getElem_cons_zero, List.getElem_cons_succ, List.setIfInBounds_toArray, List.set_cons_zero, List.set_cons_succ])
            refine wpAnyH_take (i := 9) (oi := ({ dst := some 22, op := .move (.tmp 21), type := 4, pos := "ref.go:187", after := #[⟨8, .data⟩, ⟨6, .chain⟩, ⟨6, .guard⟩], guard := some (6, false) } : Go.Oper)) (v := ?v64) rfl (by kernel_rfl) (by kernel_rfl) (by kernel_rfl) (fun _ _ _ h => h) (Or.inl ⟨by rfl, ?hy64⟩) (by assumption) ?rest64
            case hy64 => (intro w hSw; (try dsimp only at hSw); go_simp; (try with_reducible rfl))
            (try simp only [Act.put, List.getElem_toArray, List.getElem_cons_zero, List.getElem_cons_succ, List.setIfInBounds_toArray, List.set_cons_zero, List.set_cons_succ])
            refine wpAnyH_take (i := 10) (oi := ({ dst := some 23, op := .move (.tmp 0), type := 42, pos := "ref.go:187", after := #[⟨9, .guard⟩], guard := some (9, true) } : Go.Oper)) (v := ?v65) rfl (by kernel_rfl) (by kernel_rfl) (by kernel_rfl) (fun _ _ _ h => h) (Or.inl ⟨by rfl, ?hy65⟩) (by assumption) ?rest65
            case hy65 => (intro w hSw; (try dsimp only at hSw); go_simp; (try with_reducible rfl))
            (try simp only [Act.put, List.getElem_toArray, List.getElem_cons_zero, List.getElem_cons_succ, List.setIfInBounds_toArray, List.set_cons_zero, List.set_cons_succ])
            refine wpAnyH_take (i := 11) (oi := ({ dst := some 24, op := .move (.tmp 6), type := 3, pos := "ref.go:187", after := #[⟨9, .guard⟩], guard := some (9, true) } : Go.Oper)) (v := ?v66) rfl (by kernel_rfl) (by kernel_rfl) (by kernel_rfl) (fun _ _ _ h => h) (Or.inl ⟨by rfl, ?hy66⟩) (by assumption) ?rest66
            case hy66 => (intro w hSw; (try dsimp only at hSw); go_simp; (try with_reducible rfl))
            (try simp only [Act.put, List.getElem_toArray, List.getElem_cons_zero, List.getElem_cons_succ, List.setIfInBounds_toArray, List.set_cons_zero, List.set_cons_succ])
            refine wpAnyH_take (i := 12) (oi := ({ dst := some 25, op := .binOp .sub 3 (.tmp 24) (.const (.int .i64 1)) 3, type := 3, pos := "ref.go:187", after := #[⟨11, .data⟩, ⟨9, .guard⟩], guard := some (9, true) } : Go.Oper)) (v := ?v67) rfl (by kernel_rfl) (by kernel_rfl) (by kernel_rfl) (fun _ _ _ h => h) (Or.inl ⟨by rfl, ?hy67⟩) (by assumption) ?rest67
            case hy67 => (intro w hSw; (try dsimp only at hSw); go_simp; (try with_reducible rfl))
            (try simp only [Act.put, List.getElem_toArray, List.getElem_cons_zero, List.getElem_cons_succ, List.setIfInBounds_toArray, List.set_cons_zero, List.set_cons_succ])
            refine wpAnyH_take (i := 13) (oi := ({ dst := some 26, op := .indexAddr 42 (.tmp 23) (.tmp 25), type := 0, pos := "ref.go:187", after := #[⟨10, .data⟩, ⟨12, .data⟩, ⟨9, .guard⟩], guard := some (9, true) } : Go.Oper)) (v := ?v68) rfl (by kernel_rfl) (by kernel_rfl) (by kernel_rfl) (fun _ _ _ h => h) (Or.inl ⟨by rfl, ?hy68⟩) (by assumption) ?rest68
            case hy68 => (intro w hSw; (try dsimp only at hSw); go_simp; (try with_reducible rfl))
            (try simp only [Act.put, List.getElem_toArray, List.getElem_cons_zero, List.getElem_cons_succ, List.setIfInBounds_toArray, List.set_cons_zero, List.set_cons_succ])
            refine wpAnyH_take (i := 14) (oi := ({ dst := some 27, op := .load 25 (.tmp 26), type := 25, pos := "ref.go:187", after := #[⟨13, .data⟩, ⟨9, .guard⟩], guard := some (9, true) } : Go.Oper)) (v := ?v69) rfl (by kernel_rfl) (by kernel_rfl) (by kernel_rfl) (fun _ _ _ h => h) (Or.inl ⟨by rfl, ?hy69⟩) (by assumption) ?rest69
            case hy69 => (intro w hSw; (try dsimp only at hSw); go_simp; (try with_reducible rfl))
            (try simp only [Act.put, List.getElem_toArray, List.getElem_cons_zero, List.getElem_cons_succ, List.setIfInBounds_toArray, List.set_cons_zero, List.set_cons_succ])
            refine wpAnyH_take (i := 15) (oi := ({ dst := some 28, op := .move (.tmp 0), type := 42, pos := "ref.go:187", after := #[⟨9, .guard⟩], guard := some (9, true) } : Go.Oper)) (v := ?v70) rfl (by kernel_rfl) (by kernel_rfl) (by kernel_rfl) (fun _ _ _ h => h) (Or.inl ⟨by rfl, ?hy70⟩) (by assumption) ?rest70
            case hy70 => (intro w hSw; (try dsimp only at hSw); go_simp; (try with_reducible rfl))
            (try simp only [Act.put, List.getElem_toArray, List.getElem_cons_zero, List.getElem_cons_succ, List.setIfInBounds_toArray, List.set_cons_zero, List.set_cons_succ])
            refine wpAnyH_take (i := 16) (oi := ({ dst := some 29, op := .move (.tmp 6), type := 3, pos := "ref.go:187", after := #[⟨9, .guard⟩], guard := some (9, true) } : Go.Oper)) (v := ?v71) rfl (by kernel_rfl) (by kernel_rfl) (by kernel_rfl) (fun _ _ _ h => h) (Or.inl ⟨by rfl, ?hy71⟩) (by assumption) ?rest71
            case hy71 => (intro w hSw; (try dsimp only at hSw); go_simp; (try with_reducible rfl))
            (try simp only [Act.put, List.getElem_toArray, List.getElem_cons_zero, List.getElem_cons_succ, List.setIfInBounds_toArray, List.set_cons_zero, List.set_cons_succ])
            refine wpAnyH_take (i := 17) (oi := ({ dst := some 30, op := .indexAddr 42 (.tmp 28) (.tmp 29), type := 0, pos := "ref.go:187", after := #[⟨15, .data⟩, ⟨16, .data⟩, ⟨9, .guard⟩], guard := some (9, true) } : Go.Oper)) (v := ?v72) rfl (by kernel_rfl) (by kernel_rfl) (by kernel_rfl) (fun _ _ _ h => h) (Or.inl ⟨by rfl, ?hy72⟩) (by assumption) ?rest72
            case hy72 => (intro w hSw; (try dsimp only at hSw); go_simp; (try with_reducible rfl))
            (try simp only [Act.put, List.getElem_toArray, List.getElem_cons_zero, List.getElem_cons_succ, List.setIfInBounds_toArray, List.set_cons_zero, List.set_cons_succ])
            refine wpAnyH_take (i := 18) (oi := ({ dst := some 31, op := .load 25 (.tmp 30), type := 25, pos := "ref.go:187", after := #[⟨17, .data⟩, ⟨9, .guard⟩], guard := some (9, true) } : Go.Oper)) (v := ?v73) rfl (by kernel_rfl) (by kernel_rfl) (by kernel_rfl) (fun _ _ _ h => h) (Or.inl ⟨by rfl, ?hy73⟩) (by assumption) ?rest73
            case hy73 => (intro w hSw; (try dsimp only at hSw); go_simp; (try with_reducible rfl))
            (try simp only [Act.put, List.getElem_toArray, List.getElem_cons_zero, List.getElem_cons_succ, List.setIfInBounds_toArray, List.set_cons_zero, List.set_cons_succ])
            refine wpAnyH_ready (rs := [19]) (by kernel_rfl) (by simp) ?_
            refine AllReadyH.cons (o := ({ dst := some 32, op := .call { callee := .value (.func 27), args := #[.tmp 27, .tmp 31], argTypes := #[25, 25] }, type := 3, pos := "ref.go:187", after := #[⟨14, .data⟩, ⟨18, .data⟩, ⟨9, .chain⟩, ⟨9, .guard⟩], guard := some (9, true) } : Go.Oper)) rfl (fun K hK => ?_) AllReadyH.nil
            go_simp
            (first | (go_at_call 18; refine (rmay_any _ x _ (HR.out.ext (by with_reducible (repeat (first | exact Ext.rfl_ _ | assumption | refine Ext.drew ?_ | refine Ext.drewN ?_ _ | refine Ext.alloc ?_ _ | refine Ext.trans ?_ (by assumption)))))).mono ?_; rintro e w1 ⟨rfl, hw1⟩; rw [HM.out]) | (go_at_call 27; refine (rcompare_any _ _ y x _ (HRY.out.ext (by with_reducible (repeat (first | exact Ext.rfl_ _ | assumption | refine Ext.drew ?_ | refine Ext.drewN ?_ _ | refine Ext.alloc ?_ _ | refine Ext.trans ?_ (by assumption))))) (HR.out.ext (by with_reducible (repeat (first | exact Ext.rfl_ _ | assumption | refine Ext.drew ?_ | refine Ext.drewN ?_ _ | refine Ext.alloc ?_ _ | refine Ext.trans ?_ (by assumption)))))).mono ?_; rintro e w2 ⟨rfl, hw2⟩))
            (try (go_wp2_with fail))
            refine hK.out _ _ (by (try dsimp only); exact HS2.out _ (by with_reducible (repeat (first | exact Ext.rfl_ _ | assumption | refine Ext.drew ?_ | refine Ext.drewN ?_ _ | refine Ext.alloc ?_ _ | refine Ext.trans ?_ (by assumption))))) (fun hHeld => ?_)
            clear hK K
            (try simp only [Act.put, List.getElem_toArray, List.getElem_cons_zero, List.getElem_cons_succ, List.setIfInBounds_toArray, List.set_cons_zero, List.set_cons_succ])
            refine wpAnyH_take (i := 20) (oi := ({ dst := some 33, op := .binOp .geq 3 (.tmp 32) (.const (.int .i64 0)) 3, type := 4, pos := "ref.go:187", after := #[⟨19, .data⟩, ⟨9, .guard⟩], guard := some (9, true) } : Go.Oper)) (v := ?v74) rfl (by kernel_rfl) (by kernel_rfl) (by kernel_rfl) (fun _ _ _ h => h) (Or.inl ⟨by rfl, ?hy74⟩) (by assumption) ?rest74
            case hy74 => (intro w hSw; (try dsimp only at hSw); go_simp; (try with_reducible rfl))
            (try simp only [Act.put, List.getElem_toArray, List.getElem_cons_zero, List.getElem_cons_succ, List.setIfInBounds_toArray, List.set_cons_zero, List.set_cons_succ])
            refine wpAnyH_take (i := 21) (oi := ({ dst := some 34, op := .pick (.tmp 22) (.tmp 33) (.const (.bool false)), type := 4, pos := "ref.go:187", after := #[⟨9, .data⟩, ⟨20, .data⟩, ⟨6, .guard⟩], guard := some (6, false) } : Go.Oper)) (v := ?v75) rfl (by kernel_rfl) (by kernel_rfl) (by kernel_rfl) (fun _ _ _ h => h) (Or.inl ⟨by rfl, ?hy75⟩) (by assumption) ?rest75
            case hy75 => (intro w hSw; (try dsimp only at hSw); go_simp; (try with_reducible rfl))
            (try simp only [Act.put, List.getElem_toArray, List.getElem_cons_zero, List.getElem_cons_succ, List.setIfInBounds_toArray, List.set_cons_zero, List.set_cons_succ])
            refine wpAnyH_take (i := 22) (oi := ({ dst := some 35, op := .pick (.tmp 19) (.const (.bool true)) (.tmp 34), type := 4, pos := "ref.go:187", after := #[⟨6, .data⟩, ⟨21, .data⟩], guard := none } : Go.Oper)) (v := ?v76) rfl (by kernel_rfl) (by kernel_rfl) (by kernel_rfl) (fun _ _ _ h => h) (Or.inl ⟨by rfl, ?hy76⟩) (by assumption) ?rest76
            case hy76 => (intro w hSw; (try dsimp only at hSw); go_simp; (try with_reducible rfl))
            (try simp only [Act.put, List.getElem_toArray, List.getElem_cons_zero, List.getElem_cons_succ, List.setIfInBounds_toArray, List.set_cons_zero, List.set_cons_succ])
            refine wpAnyH_done (by kernel_rfl) ?_ _
            have xr : Ext wr w2 := (by with_reducible (repeat (first | exact Ext.rfl_ _ | assumption | refine Ext.drew ?_ | refine Ext.drewN ?_ _ | refine Ext.alloc ?_ _ | refine Ext.trans ?_ (by assumption))))
            have xw : Ext w w2 := hE.trans xr
            have ho2 := OwnL.ext ho.out xr
            have HO2 := Lib.hid ho2
            have hro2 := HRO.out.ext xr
            have HRO2 := Lib.hid hro2
            obtain ⟨z0, z1, z2, z3⟩ := HS.out _ xw
            clear ho2 hro2 xr
            clear hw1
            clear hw2
            by_cases t1 : x.seq ≤ s
            · by_cases t2 : n' = 0
              · subst t2
                have hnil : latL s [] (xs.take k) = [] := List.eq_nil_of_length_eq_zero HRO2.out.1
                have htk := latL_take (s := s) (p := []) (pre := xs.take k) (x := x) (fun h => by rcases h with h | h; omega; rw [lky_empty hnil] at h; rcases HNE.out with h2 | h2; exact h2 h.symm; rw [HM.out] at h2; cases h2)
                have HTK := Lib.hid htk
                clear htk
                clear hnil
                go_wp2
                refine wp_region_held_drew (S := (fun W => W.cell? ⟨b, o + k * 4, none⟩ = some (.slice A1 n1 c1') ∧ W.cell? ⟨b, o + k * 4 + 1, none⟩ = some (.int .i64 x.seq) ∧ W.cell? ⟨b, o + k * 4 + 2, none⟩ = some (.int .i64 x.kind) ∧ W.cell? ⟨b, o + k * 4 + 3, none⟩ = some (.slice A2 n2 c2'))) (by kernel_rfl) (by (try dsimp only); exact HS.out _ (by with_reducible (repeat (first | exact Ext.rfl_ _ | assumption | refine Ext.drew ?_ | refine Ext.drewN ?_ _ | refine Ext.alloc ?_ _ | refine Ext.trans ?_ (by assumption))))) (fun hHeld => ?_)
                refine wpAnyH_take (i := 0) (oi := ({ dst := some 37, op := .move (.tmp 0), type := 42, pos := "ref.go:190", after := #[], guard := none } : Go.Oper)) (v := ?v77) rfl (by kernel_rfl) (by kernel_rfl) (by kernel_rfl) (fun _ _ _ h => h) (Or.inl ⟨by rfl, ?hy77⟩) (by assumption) ?rest77
                case hy77 => (intro w hSw; (try dsimp only at hSw); go_simp; (try with_reducible rfl))
                (try simp only [Act.put, List.getElem_toArray, List.getElem_cons_zero, List.getElem_cons_succ, List.setIfInBounds_toArray, List.set_cons_zero, List.set_cons_succ])
                refine wpAnyH_take (i := 1) (oi := ({ dst := some 38, op := .move (.tmp 6), type := 3, pos := "ref.go:190", after := #[], guard := none } : Go.Oper)) (v := ?v78) rfl (by kernel_rfl) (by kernel_rfl) (by kernel_rfl) (fun _ _ _ h => h) (Or.inl ⟨by rfl, ?hy78⟩) (by assumption) ?rest78
                case hy78 => (intro w hSw; (try dsimp only at hSw); go_simp; (try with_reducible rfl))
                (try simp only [Act.put, List.getElem_toArray, List.getElem_cons_zero, List.getElem_cons_succ, List.setIfInBounds_toArray, List.set_cons_zero, List.set_cons_succ])
                refine wpAnyH_take (i := 2) (oi := ({ dst := some 39, op := .indexAddr 42 (.tmp 37) (.tmp 38), type := 0, pos := "ref.go:190", after := #[⟨0, .data⟩, ⟨1, .data⟩], guard := none } : Go.Oper)) (v := ?v79) rfl (by kernel_rfl) (by kernel_rfl) (by kernel_rfl) (fun _ _ _ h => h) (Or.inl ⟨by rfl, ?hy79⟩) (by assumption) ?rest79
                case hy79 => (intro w hSw; (try dsimp only at hSw); go_simp; (try with_reducible rfl))
                (try simp only [Act.put, List.getElem_toArray, List.getElem_cons_zero, List.getElem_cons_succ, List.setIfInBounds_toArray, List.set_cons_zero, List.set_cons_succ])
                refine wpAnyH_take (i := 3) (oi := ({ dst := some 40, op := .fieldAddr 25 (.tmp 39) 1, type := 0, pos := "ref.go:190", after := #[⟨2, .data⟩], guard := none } : Go.Oper)) (v := ?v80) rfl (by kernel_rfl) (by kernel_rfl) (by kernel_rfl) (fun _ _ _ h => h) (Or.inl ⟨by rfl, ?hy80⟩) (by assumption) ?rest80
                case hy80 => (intro w hSw; (try dsimp only at hSw); go_simp; (try with_reducible rfl))
                (try simp only [Act.put, List.getElem_toArray, List.getElem_cons_zero, List.getElem_cons_succ, List.setIfInBounds_toArray, List.set_cons_zero, List.set_cons_succ])
                refine wpAnyH_take (i := 4) (oi := ({ dst := some 41, op := .load 2 (.tmp 40), type := 2, pos := "ref.go:190", after := #[⟨3, .data⟩], guard := none } : Go.Oper)) (v := ?v81) rfl (by kernel_rfl) (by kernel_rfl) (by kernel_rfl) (fun _ _ _ h => h) (Or.inl ⟨by rfl, ?hy81⟩) (by assumption) ?rest81
                case hy81 => (intro w hSw; (try dsimp only at hSw); go_simp; (try with_reducible rfl))
                (try simp only [Act.put, List.getElem_toArray, List.getElem_cons_zero, List.getElem_cons_succ, List.setIfInBounds_toArray, List.set_cons_zero, List.set_cons_succ])
                refine wpAnyH_take (i := 5) (oi := ({ dst := some 42, op := .move (.tmp 1), type := 2, pos := "ref.go:190", after := #[], guard := none } : Go.Oper)) (v := ?v82) rfl (by kernel_rfl) (by kernel_rfl) (by kernel_rfl) (fun _ _ _ h => h) (Or.inl ⟨by rfl, ?hy82⟩) (by assumption) ?rest82
                case hy82 => (intro w hSw; (try dsimp only at hSw); go_simp; (try with_reducible rfl))
                (try simp only [Act.put, List.getElem_toArray, List.getElem_cons_zero, List.getElem_cons_succ, List.setIfInBounds_toArray, List.set_cons_zero, List.set_cons_succ])
                refine wpAnyH_take (i := 6) (oi := ({ dst := some 43, op := .binOp .leq 2 (.tmp 41) (.tmp 42) 2, type := 4, pos := "ref.go:190", after := #[⟨4, .data⟩, ⟨5, .data⟩], guard := none } : Go.Oper)) (v := ?v83) rfl (by kernel_rfl) (by kernel_rfl) (by kernel_rfl) (fun _ _ _ h => h) (Or.inl ⟨by rfl, ?hy83⟩) (by assumption) ?rest83
                case hy83 => (intro w hSw; (try dsimp only at hSw); go_simp; (try with_reducible rfl))
                (try simp only [Act.put, List.getElem_toArray, List.getElem_cons_zero, List.getElem_cons_succ, List.setIfInBounds_toArray, List.set_cons_zero, List.set_cons_succ])
                refine wpAnyH_take (i := 7) (oi := ({ dst := some 44, op := .move (.tmp 43), type := 4, pos := "ref.go:190", after := #[⟨6, .data⟩], guard := none } : Go.Oper)) (v := ?v84) rfl (by kernel_rfl) (by kernel_rfl) (by kernel_rfl) (fun _ _ _ h => h) (Or.inl ⟨by rfl, ?hy84⟩) (by assumption) ?rest84
                case hy84 => (intro w hSw; (try dsimp only at hSw); go_simp; (try with_reducible rfl))
                (try simp only [Act.put, List.getElem_toArray, List.getElem_cons_zero, List.getElem_cons_succ, List.setIfInBounds_toArray, List.set_cons_zero, List.set_cons_succ])
                refine wpAnyH_take (i := 8) (oi := ({ dst := some 45, op := .move (.tmp 5), type := 42, pos := "ref.go:190", after := #[⟨7, .guard⟩], guard := some (7, true) } : Go.Oper)) (v := ?v85) rfl (by kernel_rfl) (by kernel_rfl) (by kernel_rfl) (fun _ _ _ h => h) (Or.inl ⟨by rfl, ?hy85⟩) (by assumption) ?rest85
                case hy85 => (intro w hSw; (try dsimp only at hSw); go_simp; (try with_reducible rfl))
                (try simp only [Act.put, List.getElem_toArray, List.getElem_cons_zero, List.getElem_cons_succ, List.setIfInBounds_toArray, List.set_cons_zero, List.set_cons_succ])
                refine wpAnyH_take (i := 9) (oi := ({ dst := some 46, op := .call { callee := .builtin .len, args := #[.tmp 45], argTypes := #[42] }, type := 3, pos := "ref.go:190", after := #[⟨8, .data⟩, ⟨7, .guard⟩], guard := some (7, true) } : Go.Oper)) (v := ?v86) rfl (by kernel_rfl) (by kernel_rfl) (by kernel_rfl) (fun _ _ _ h => h) (Or.inl ⟨by rfl, ?hy86⟩) (by assumption) ?rest86
                case hy86 => (intro w hSw; (try dsimp only at hSw); go_simp; (try with_reducible rfl))
                (try simp only [Act.put, List.getElem_toArray, List.getElem_cons_zero, List.getElem_cons_succ, List.setIfInBounds_toArray, List.set_cons_zero, List.set_cons_succ])
                refine wpAnyH_take (i := 10) (oi := ({ dst := some 47, op := .binOp .eql 3 (.tmp 46) (.const (.int .i64 0)) 3, type := 4, pos := "ref.go:190", after := #[⟨9, .data⟩, ⟨7, .guard⟩], guard := some (7, true) } : Go.Oper)) (v := ?v87) rfl (by kernel_rfl) (by kernel_rfl) (by kernel_rfl) (fun _ _ _ h => h) (Or.inl ⟨by rfl, ?hy87⟩) (by assumption) ?rest87
                case hy87 => (intro w hSw; (try dsimp only at hSw); go_simp; (try with_reducible rfl))
                (try simp only [Act.put, List.getElem_toArray, List.getElem_cons_zero, List.getElem_cons_succ, List.setIfInBounds_toArray, List.set_cons_zero, List.set_cons_succ])
                refine wpAnyH_take (i := 11) (oi := ({ dst := some 48, op := .move (.tmp 47), type := 4, pos := "ref.go:190", after := #[⟨10, .data⟩, ⟨7, .chain⟩, ⟨7, .guard⟩], guard := some (7, true) } : Go.Oper)) (v := ?v88) rfl (by kernel_rfl) (by kernel_rfl) (by kernel_rfl) (fun _ _ _ h => h) (Or.inl ⟨by rfl, ?hy88⟩) (by assumption) ?rest88
                case hy88 => (intro w hSw; (try dsimp only at hSw); go_simp; (try with_reducible rfl))
                (try simp only [Act.put, List.getElem_toArray, List.getElem_cons_zero, List.getElem_cons_succ, List.setIfInBounds_toArray, List.set_cons_zero, List.set_cons_succ])
                refine wpAnyH_take (i := 12) (oi := ({ dst := some 49, op := .move (.tmp 5), type := 42, pos := "ref.go:190", after := #[⟨11, .guard⟩], guard := some (11, false) } : Go.Oper)) (v := undef) rfl (by kernel_rfl) (by kernel_rfl) (by kernel_rfl) (fun _ _ _ h => h) (Or.inr ⟨by rfl, rfl⟩) (by assumption) ?_
                (try simp only [Act.put, List.getElem_toArray, List.getElem_cons_zero, List.getElem_cons_succ, List.setIfInBounds_toArray, List.set_cons_zero, List.set_cons_succ])
                refine wpAnyH_take (i := 13) (oi := ({ dst := some 50, op := .move (.tmp 5), type := 42, pos := "ref.go:190", after := #[⟨11, .guard⟩], guard := some (11, false) } : Go.Oper)) (v := undef) rfl (by kernel_rfl) (by kernel_rfl) (by kernel_rfl) (fun _ _ _ h => h) (Or.inr ⟨by rfl, rfl⟩) (by assumption) ?_
                (try simp only [Act.put, List.getElem_toArray, List.getElem_cons_zero, List.getElem_cons_succ, List.setIfInBounds_toArray, List.set_cons_zero, List.set_cons_succ])
                refine wpAnyH_take (i := 14) (oi := ({ dst := some 51, op := .call { callee := .builtin .len, args := #[.tmp 50], argTypes := #[42] }, type := 3, pos := "ref.go:190", after := #[⟨13, .data⟩, ⟨11, .guard⟩], guard := some (11, false) } : Go.Oper)) (v := undef) rfl (by kernel_rfl) (by kernel_rfl) (by kernel_rfl) (fun _ _ _ h => h) (Or.inr ⟨by rfl, rfl⟩) (by assumption) ?_
                (try simp only [Act.put, List.getElem_toArray, List.getElem_cons_zero, List.getElem_cons_succ, List.setIfInBounds_toArray, List.set_cons_zero, List.set_cons_succ])
                refine wpAnyH_take (i := 15) (oi := ({ dst := some 52, op := .binOp .sub 3 (.tmp 51) (.const (.int .i64 1)) 3, type := 3, pos := "ref.go:190", after := #[⟨14, .data⟩, ⟨11, .guard⟩], guard := some (11, false) } : Go.Oper)) (v := undef) rfl (by kernel_rfl) (by kernel_rfl) (by kernel_rfl) (fun _ _ _ h => h) (Or.inr ⟨by rfl, rfl⟩) (by assumption) ?_
                (try simp only [Act.put, List.getElem_toArray, List.getElem_cons_zero, List.getElem_cons_succ, List.setIfInBounds_toArray, List.set_cons_zero, List.set_cons_succ])
                refine wpAnyH_take (i := 16) (oi := ({ dst := some 53, op := .indexAddr 42 (.tmp 49) (.tmp 52), type := 0, pos := "ref.go:190", after := #[⟨12, .data⟩, ⟨15, .data⟩, ⟨11, .guard⟩], guard := some (11, false) } : Go.Oper)) (v := undef) rfl (by kernel_rfl) (by kernel_rfl) (by kernel_rfl) (fun _ _ _ h => h) (Or.inr ⟨by rfl, rfl⟩) (by assumption) ?_
                (try simp only [Act.put, List.getElem_toArray, List.getElem_cons_zero, List.getElem_cons_succ, List.setIfInBounds_toArray, List.set_cons_zero, List.set_cons_succ])
                refine wpAnyH_take (i := 17) (oi := ({ dst := some 54, op := .fieldAddr 25 (.tmp 53) 0, type := 0, pos := "ref.go:190", after := #[⟨16, .data⟩, ⟨11, .guard⟩], guard := some (11, false) } : Go.Oper)) (v := undef) rfl (by kernel_rfl) (by kernel_rfl) (by kernel_rfl) (fun _ _ _ h => h) (Or.inr ⟨by rfl, rfl⟩) (by assumption) ?_
                (try simp only [Act.put, List.getElem_toArray, List.getElem_cons_zero, List.getElem_cons_succ, List.setIfInBounds_toArray, List.set_cons_zero, List.set_cons_succ])
                refine wpAnyH_take (i := 18) (oi := ({ dst := some 55, op := .load 22 (.tmp 54), type := 22, pos := "ref.go:190", after := #[⟨17, .data⟩, ⟨11, .guard⟩], guard := some (11, false) } : Go.Oper)) (v := undef) rfl (by kernel_rfl) (by kernel_rfl) (by kernel_rfl) (fun _ _ _ h => h) (Or.inr ⟨by rfl, rfl⟩) (by assumption) ?_
                (try simp only [Act.put, List.getElem_toArray, List.getElem_cons_zero, List.getElem_cons_succ, List.setIfInBounds_toArray, List.set_cons_zero, List.set_cons_succ])
                refine wpAnyH_take (i := 19) (oi := ({ dst := some 56, op := .convert 22 9 (.tmp 55), type := 9, pos := "ref.go:190", after := #[⟨18, .data⟩, ⟨11, .guard⟩], guard := some (11, false) } : Go.Oper)) (v := undef) rfl (by kernel_rfl) (by kernel_rfl) (by kernel_rfl) (fun _ _ _ h => h) (Or.inr ⟨by rfl, rfl⟩) (by assumption) ?_
                (try simp only [Act.put, List.getElem_toArray, List.getElem_cons_zero, List.getElem_cons_succ, List.setIfInBounds_toArray, List.set_cons_zero, List.set_cons_succ])
                refine wpAnyH_take (i := 20) (oi := ({ dst := some 57, op := .move (.tmp 0), type := 42, pos := "ref.go:190", after := #[⟨11, .guard⟩], guard := some (11, false) } : Go.Oper)) (v := undef) rfl (by kernel_rfl) (by kernel_rfl) (by kernel_rfl) (fun _ _ _ h => h) (Or.inr ⟨by rfl, rfl⟩) (by assumption) ?_
                (try simp only [Act.put, List.getElem_toArray, List.getElem_cons_zero, List.getElem_cons_succ, List.setIfInBounds_toArray, List.set_cons_zero, List.set_cons_succ])
                refine wpAnyH_take (i := 21) (oi := ({ dst := some 58, op := .move (.tmp 6), type := 3, pos := "ref.go:190", after := #[⟨11, .guard⟩], guard := some (11, false) } : Go.Oper)) (v := undef) rfl (by kernel_rfl) (by kernel_rfl) (by kernel_rfl) (fun _ _ _ h => h) (Or.inr ⟨by rfl, rfl⟩) (by assumption) ?_
                (try simp only [Act.put, List.getElem_toArray, List.getElem_cons_zero, List.getElem_cons_succ, List.setIfInBounds_toArray, List.set_cons_zero, List.set_cons_succ])
                refine wpAnyH_take (i := 22) (oi := ({ dst := some 59, op := .indexAddr 42 (.tmp 57) (.tmp 58), type := 0, pos := "ref.go:190", after := #[⟨20, .data⟩, ⟨21, .data⟩, ⟨11, .guard⟩], guard := some (11, false) } : Go.Oper)) (v := undef) rfl (by kernel_rfl) (by kernel_rfl) (by kernel_rfl) (fun _ _ _ h => h) (Or.inr ⟨by rfl, rfl⟩) (by assumption) ?_
                (try simp only [Act.put, List.getElem_toArray, List.getElem_cons_zero, List.getElem_cons_succ, List.setIfInBounds_toArray, List.set_cons_zero, List.set_cons_succ])
                refine wpAnyH_take (i := 23) (oi := ({ dst := some 60, op := .fieldAddr 25 (.tmp 59) 0, type := 0, pos := "ref.go:190", after := #[⟨22, .data⟩, ⟨11, .guard⟩], guard := some (11, false) } : Go.Oper)) (v := undef) rfl (by kernel_rfl) (by kernel_rfl) (by kernel_rfl) (fun _ _ _ h => h) (Or.inr ⟨by rfl, rfl⟩) (by assumption) ?_
                (try simp only [Act.put, List.getElem_toArray, List.getElem_cons_zero, List.getElem_cons_succ, List.setIfInBounds_toArray, List.set_cons_zero, List.set_cons_succ])
                refine wpAnyH_take (i := 24) (oi := ({ dst := some 61, op := .load 22 (.tmp 60), type := 22, pos := "ref.go:190", after := #[⟨23, .data⟩, ⟨11, .guard⟩], guard := some (11, false) } : Go.Oper)) (v := undef) rfl (by kernel_rfl) (by kernel_rfl) (by kernel_rfl) (fun _ _ _ h => h) (Or.inr ⟨by rfl, rfl⟩) (by assumption) ?_
                (try simp only [Act.put, List.getElem_toArray, List.getElem_cons_zero, List.getElem_cons_succ, List.setIfInBounds_toArray, List.set_cons_zero, List.set_cons_succ])
                refine wpAnyH_take (i := 25) (oi := ({ dst := some 62, op := .convert 22 9 (.tmp 61), type := 9, pos := "ref.go:190", after := #[⟨24, .data⟩, ⟨11, .guard⟩], guard := some (11, false) } : Go.Oper)) (v := undef) rfl (by kernel_rfl) (by kernel_rfl) (by kernel_rfl) (fun _ _ _ h => h) (Or.inr ⟨by rfl, rfl⟩) (by assumption) ?_
                (try simp only [Act.put, List.getElem_toArray, List.getElem_cons_zero, List.getElem_cons_succ, List.setIfInBounds_toArray, List.set_cons_zero, List.set_cons_succ])
                refine wpAnyH_take (i := 26) (oi := ({ dst := some 63, op := .binOp .neq 9 (.tmp 56) (.tmp 62) 9, type := 4, pos := "ref.go:190", after := #[⟨19, .data⟩, ⟨25, .data⟩, ⟨11, .guard⟩], guard := some (11, false) } : Go.Oper)) (v := undef) rfl (by kernel_rfl) (by kernel_rfl) (by kernel_rfl) (fun _ _ _ h => h) (Or.inr ⟨by rfl, rfl⟩) (by assumption) ?_
                (try simp only [Act.put, List.getElem_toArray, List.getElem_cons_zero, List.getElem_cons_succ, List.setIfInBounds_toArray, List.set_cons_zero, List.set_cons_succ])
                refine wpAnyH_take (i := 27) (oi := ({ dst := some 64, op := .pick (.tmp 48) (.const (.bool true)) (.tmp 63), type := 4, pos := "ref.go:190", after := #[⟨11, .data⟩, ⟨26, .data⟩, ⟨7, .guard⟩], guard := some (7, true) } : Go.Oper)) (v := ?v89) rfl (by kernel_rfl) (by kernel_rfl) (by kernel_rfl) (fun _ _ _ h => h) (Or.inl ⟨by rfl, ?hy89⟩) (by assumption) ?rest89
                case hy89 => (intro w hSw; (try dsimp only at hSw); go_simp; (try with_reducible rfl))
                (try simp only [Act.put, List.getElem_toArray, List.getElem_cons_zero, List.getElem_cons_succ, List.setIfInBounds_toArray, List.set_cons_zero, List.set_cons_succ])
                refine wpAnyH_take (i := 28) (oi := ({ dst := some 65, op := .pick (.tmp 44) (.tmp 64) (.const (.bool false)), type := 4, pos := "ref.go:190", after := #[⟨7, .data⟩, ⟨27, .data⟩], guard := none } : Go.Oper)) (v := ?v90) rfl (by kernel_rfl) (by kernel_rfl) (by kernel_rfl) (fun _ _ _ h => h) (Or.inl ⟨by rfl, ?hy90⟩) (by assumption) ?rest90
                case hy90 => (intro w hSw; (try dsimp only at hSw); go_simp; (try with_reducible rfl))
                (try simp only [Act.put, List.getElem_toArray, List.getElem_cons_zero, List.getElem_cons_succ, List.setIfInBounds_toArray, List.set_cons_zero, List.set_cons_succ])
                refine wpAnyH_done (by kernel_rfl) ?_ _
                go_wp2_with (at_builtin; refine wp_appL rfl _ _ rfl w.heap.size _ _ rfl (OwnL.ext HO2.out (by with_reducible (repeat (first | exact Ext.rfl_ _ | assumption | refine Ext.drew ?_ | refine Ext.drewN ?_ _ | refine Ext.alloc ?_ _ | refine Ext.trans ?_ (by assumption))))) (some ⟨_, 0, none⟩) 1 1 [x] rfl (RdLa.one (h := ⟨A1, n1, c1', A2, n2, c2'⟩) (x := x) _ (Elt.ext HEL.out (by with_reducible (repeat (first | exact Ext.rfl_ _ | assumption | refine Ext.drew ?_ | refine Ext.drewN ?_ _ | refine Ext.alloc ?_ _ | refine Ext.trans ?_ (by assumption)))))) (by have := HLEN.out; unfold B41; simp only [List.length_cons, List.length_nil]; omega) (Ext.size (by with_reducible (repeat (first | exact Ext.rfl_ _ | assumption | refine Ext.drew ?_ | refine Ext.drewN ?_ _ | refine Ext.alloc ?_ _ | refine Ext.trans ?_ (by assumption))))) ?_; intro v5 w5 o5 g5 _; have x5 : Ext w w5 := Ext.growL (show Ext w _ from (by with_reducible (repeat (first | exact Ext.rfl_ _ | assumption | refine Ext.drew ?_ | refine Ext.drewN ?_ _ | refine Ext.alloc ?_ _ | refine Ext.trans ?_ (by assumption))))) g5 (OwnL.ext HO2.out (by with_reducible (repeat (first | exact Ext.rfl_ _ | assumption | refine Ext.drew ?_ | refine Ext.drewN ?_ _ | refine Ext.alloc ?_ _ | refine Ext.trans ?_ (by assumption))))) (Nat.le_refl _); clear g5)
                go_roundw
                case rel =>
                  refine ⟨k + 1, by go_num, by omega, Lib.hid (ris_go HKE.out h1.out (by rw [HXE.out]; exact HGO.out)), Lib.hid ?_, x5⟩
                  rw [List.take_succ_eq_append_getElem HKE.out, HXE.out, HTK.out.1]; exact o5
                case measure => simp [intOf]; omega
              · obtain ⟨b5, o5, A5, n5, c5, A6, n6, c6, z, e5, hz, ⟨y0, y1, y2, y3⟩, hrz⟩ := HRO2.out.at_ (n' - 1) (by omega)
                subst e5
                have hlz : (latL s [] (xs.take k)).getLast? = some z := by rw [List.getLast?_eq_getElem?, HRO2.out.1]; exact hz
                have hlk := lky_last hlz
                have HLK := Lib.hid hlk
                have hS3 : ∀ W, Ext w2 W → (W.cell? ⟨b, o + k * 4, none⟩ = some (.slice A1 n1 c1') ∧ W.cell? ⟨b, o + k * 4 + 1, none⟩ = some (.int .i64 x.seq) ∧ W.cell? ⟨b, o + k * 4 + 2, none⟩ = some (.int .i64 x.kind) ∧ W.cell? ⟨b, o + k * 4 + 3, none⟩ = some (.slice A2 n2 c2')) ∧ (W.cell? ⟨b5, o5 + (n' - 1) * 4, none⟩ = some (.slice A5 n5 c5) ∧ W.cell? ⟨b5, o5 + (n' - 1) * 4 + 1, none⟩ = some (.int .i64 z.seq) ∧ W.cell? ⟨b5, o5 + (n' - 1) * 4 + 2, none⟩ = some (.int .i64 z.kind) ∧ W.cell? ⟨b5, o5 + (n' - 1) * 4 + 3, none⟩ = some (.slice A6 n6 c6)) := fun W K => ⟨HS.out W (xw.trans K), K.keeps _ _ _ y0, K.keeps _ _ _ y1, K.keeps _ _ _ y2, K.keeps _ _ _ y3⟩
                have HS3 := Lib.hid hS3
                obtain ⟨rz, _, rzb, _⟩ := hrz.parts
                have HRZ := Lib.hid rz
                have hwr2 : IntKind.i64.wrap ((n' : Int) - 1) = ((n' - 1 : Nat) : Int) := by rw [IntKind.wrap_i64]; omega
                have hlt2 : ((n' - 1 : Nat) : Int) < (n' : Int) := by omega
                have hn0 : ((n' : Int) == 0) = false := by simp; omega
                clear hS3 hrz rz hlz hlk hz y0 y1 y2 y3
                by_cases t3 : z.key = x.key
                · have sk : ((⟨x.key.toArray⟩ : ByteArray) == ⟨x.key.toArray⟩) = true := str_eq _
                  have sk2 : ((⟨x.key.toArray⟩ : ByteArray) != ⟨x.key.toArray⟩) = false := by simp [bne, sk]
                  have HRQ := Lib.hid (show Rd _ A5 n5 x.key from t3 ▸ HRZ.out)
                  have hsk := latL_skip (s := s) (p := []) (pre := xs.take k) (x := x) (.inr (by rw [HLK.out]; exact t3))
                  have HSK := Lib.hid hsk
                  clear hsk
                  clear t3
                  go_wp2
                  refine wp_region_held_drew (S := (fun W => (W.cell? ⟨b, o + k * 4, none⟩ = some (.slice A1 n1 c1') ∧ W.cell? ⟨b, o + k * 4 + 1, none⟩ = some (.int .i64 x.seq) ∧ W.cell? ⟨b, o + k * 4 + 2, none⟩ = some (.int .i64 x.kind) ∧ W.cell? ⟨b, o + k * 4 + 3, none⟩ = some (.slice A2 n2 c2')) ∧ (W.cell? ⟨b5, o5 + (n' - 1) * 4, none⟩ = some (.slice A5 n5 c5) ∧ W.cell? ⟨b5, o5 + (n' - 1) * 4 + 1, none⟩ = some (.int .i64 z.seq) ∧ W.cell? ⟨b5, o5 + (n' - 1) * 4 + 2, none⟩ = some (.int .i64 z.kind) ∧ W.cell? ⟨b5, o5 + (n' - 1) * 4 + 3, none⟩ = some (.slice A6 n6 c6)))) (by kernel_rfl) (by (try dsimp only); exact HS3.out _ (by with_reducible (repeat (first | exact Ext.rfl_ _ | assumption | refine Ext.drew ?_ | refine Ext.drewN ?_ _ | refine Ext.alloc ?_ _ | refine Ext.trans ?_ (by assumption))))) (fun hHeld => ?_)
                  refine wpAnyH_take (i := 0) (oi := ({ dst := some 37, op := .move (.tmp 0), type := 42, pos := "ref.go:190", after := #[], guard := none } : Go.Oper)) (v := ?v91) rfl (by kernel_rfl) (by kernel_rfl) (by kernel_rfl) (fun _ _ _ h => h) (Or.inl ⟨by rfl, ?hy91⟩) (by assumption) ?rest91
                  case hy91 => (intro w hSw; (try dsimp only at hSw); go_simp; (try with_reducible rfl))
                  (try simp only [Act.put, List.getElem_toArray, List.getElem_cons_zero, List.getElem_cons_succ, List.setIfInBounds_toArray, List.set_cons_zero, List.set_cons_succ])
                  refine wpAnyH_take (i := 1) (oi := ({ dst := some 38, op := .move (.tmp 6), type := 3, pos := "ref.go:190", after := #[], guard := none } : Go.Oper)) (v := ?v92) rfl (by kernel_rfl) (by kernel_rfl) (by kernel_rfl) (fun _ _ _ h => h) (Or.inl ⟨by rfl, ?hy92⟩) (by assumption) ?rest92
                  case hy92 => (intro w hSw; (try dsimp only at hSw); go_simp; (try with_reducible rfl))
                  (try simp only [Act.put, List.getElem_toArray, List.getElem_cons_zero, List.getElem_cons_succ, List.setIfInBounds_toArray, List.set_cons_zero, List.set_cons_succ])
                  refine wpAnyH_take (i := 2) (oi := ({ dst := some 39, op := .indexAddr 42 (.tmp 37) (.tmp 38), type := 0, pos := "ref.go:190", after := #[⟨0, .data⟩, ⟨1, .data⟩], guard := none } : Go.Oper)) (v := ?v93) rfl (by kernel_rfl) (by kernel_rfl) (by kernel_rfl) (fun _ _ _ h => h) (Or.inl ⟨by rfl, ?hy93⟩) (by assumption) ?rest93
                  case hy93 => (intro w hSw; (try dsimp only at hSw); go_simp; (try with_reducible rfl))
                  (try simp only [Act.put, List.getElem_toArray, List.getElem_cons_zero, List.getElem_cons_succ, List.setIfInBounds_toArray, List.set_cons_zero, List.set_cons_succ])
                  refine wpAnyH_take (i := 3) (oi := ({ dst := some 40, op := .fieldAddr 25 (.tmp 39) 1, type := 0, pos := "ref.go:190", after := #[⟨2, .data⟩], guard := none } : Go.Oper)) (v := ?v94) rfl (by kernel_rfl) (by kernel_rfl) (by kernel_rfl) (fun _ _ _ h => h) (Or.inl ⟨by rfl, ?hy94⟩) (by assumption) ?rest94
                  case hy94 => (intro w hSw; (try dsimp only at hSw); go_simp; (try with_reducible rfl))
                  (try simp only [Act.put, List.getElem_toArray, List.getElem_cons_zero, List.getElem_cons_succ, List.setIfInBounds_toArray, List.set_cons_zero, List.set_cons_succ])
                  refine wpAnyH_take (i := 4) (oi := ({ dst := some 41, op := .load 2 (.tmp 40), type := 2, pos := "ref.go:190", after := #[⟨3, .data⟩], guard := none } : Go.Oper)) (v := ?v95) rfl (by kernel_rfl) (by kernel_rfl) (by kernel_rfl) (fun _ _ _ h => h) (Or.inl ⟨by rfl, ?hy95⟩) (by assumption) ?rest95
                  case hy95 => (intro w hSw; (try dsimp only at hSw); go_simp; (try with_reducible rfl))
                  (try simp only [Act.put, List.getElem_toArray, List.getElem_cons_zero, List.getElem_cons_succ, List.setIfInBounds_toArray, List.set_cons_zero, List.set_cons_succ])
                  refine wpAnyH_take (i := 5) (oi := ({ dst := some 42, op := .move (.tmp 1), type := 2, pos := "ref.go:190", after := #[], guard := none } : Go.Oper)) (v := ?v96) rfl (by kernel_rfl) (by kernel_rfl) (by kernel_rfl) (fun _ _ _ h => h) (Or.inl ⟨by rfl, ?hy96⟩) (by assumption) ?rest96
                  case hy96 => (intro w hSw; (try dsimp only at hSw); go_simp; (try with_reducible rfl))
                  (try simp only [Act.put, List.getElem_toArray, List.getElem_cons_zero, List.getElem_cons_succ, List.setIfInBounds_toArray, List.set_cons_zero, List.set_cons_succ])
                  refine wpAnyH_take (i := 6) (oi := ({ dst := some 43, op := .binOp .leq 2 (.tmp 41) (.tmp 42) 2, type := 4, pos := "ref.go:190", after := #[⟨4, .data⟩, ⟨5, .data⟩], guard := none } : Go.Oper)) (v := ?v97) rfl (by kernel_rfl) (by kernel_rfl) (by kernel_rfl) (fun _ _ _ h => h) (Or.inl ⟨by rfl, ?hy97⟩) (by assumption) ?rest97
                  case hy97 => (intro w hSw; (try dsimp only at hSw); go_simp; (try with_reducible rfl))
                  (try simp only [Act.put, List.getElem_toArray, List.getElem_cons_zero, List.getElem_cons_succ, List.setIfInBounds_toArray, List.set_cons_zero, List.set_cons_succ])
                  refine wpAnyH_take (i := 7) (oi := ({ dst := some 44, op := .move (.tmp 43), type := 4, pos := "ref.go:190", after := #[⟨6, .data⟩], guard := none } : Go.Oper)) (v := ?v98) rfl (by kernel_rfl) (by kernel_rfl) (by kernel_rfl) (fun _ _ _ h => h) (Or.inl ⟨by rfl, ?hy98⟩) (by assumption) ?rest98
                  case hy98 => (intro w hSw; (try dsimp only at hSw); go_simp; (try with_reducible rfl))
                  (try simp only [Act.put, List.getElem_toArray, List.getElem_cons_zero, List.getElem_cons_succ, List.setIfInBounds_toArray, List.set_cons_zero, List.set_cons_succ])
                  refine wpAnyH_take (i := 8) (oi := ({ dst := some 45, op := .move (.tmp 5), type := 42, pos := "ref.go:190", after := #[⟨7, .guard⟩], guard := some (7, true) } : Go.Oper)) (v := ?v99) rfl (by kernel_rfl) (by kernel_rfl) (by kernel_rfl) (fun _ _ _ h => h) (Or.inl ⟨by rfl, ?hy99⟩) (by assumption) ?rest99
                  case hy99 => (intro w hSw; (try dsimp only at hSw); go_simp; (try with_reducible rfl))
                  (try simp only [Act.put, List.getElem_toArray, List.getElem_cons_zero, List.getElem_cons_succ, List.setIfInBounds_toArray, List.set_cons_zero, List.set_cons_succ])
                  refine wpAnyH_take (i := 9) (oi := ({ dst := some 46, op := .call { callee := .builtin .len, args := #[.tmp 45], argTypes := #[42] }, type := 3, pos := "ref.go:190", after := #[⟨8, .data⟩, ⟨7, .guard⟩], guard := some (7, true) } : Go.Oper)) (v := ?v100) rfl (by kernel_rfl) (by kernel_rfl) (by kernel_rfl) (fun _ _ _ h => h) (Or.inl ⟨by rfl, ?hy100⟩) (by assumption) ?rest100
                  case hy100 => (intro w hSw; (try dsimp only at hSw); go_simp; (try with_reducible rfl))
                  (try simp only [Act.put, List.getElem_toArray, List.getElem_cons_zero, List.getElem_cons_succ, List.setIfInBounds_toArray, List.set_cons_zero, List.set_cons_succ])
                  refine wpAnyH_take (i := 10) (oi := ({ dst := some 47, op := .binOp .eql 3 (.tmp 46) (.const (.int .i64 0)) 3, type := 4, pos := "ref.go:190", after := #[⟨9, .data⟩, ⟨7, .guard⟩], guard := some (7, true) } : Go.Oper)) (v := ?v101) rfl (by kernel_rfl) (by kernel_rfl) (by kernel_rfl) (fun _ _ _ h => h) (Or.inl ⟨by rfl, ?hy101⟩) (by assumption) ?rest101
                  case hy101 => (intro w hSw; (try dsimp only at hSw); go_simp; (try with_reducible rfl))
                  (try simp only [Act.put, List.getElem_toArray, List.getElem_cons_zero, List.getElem_cons_succ, List.setIfInBounds_toArray, List.set_cons_zero, List.set_cons_succ])
                  refine wpAnyH_take (i := 11) (oi := ({ dst := some 48, op := .move (.tmp 47), type := 4, pos := "ref.go:190", after := #[⟨10, .data⟩, ⟨7, .chain⟩, ⟨7, .guard⟩], guard := some (7, true) } : Go.Oper)) (v := ?v102) rfl (by kernel_rfl) (by kernel_rfl) (by kernel_rfl) (fun _ _ _ h => h) (Or.inl ⟨by rfl, ?hy102⟩) (by assumption) ?rest102
                  case hy102 => (intro w hSw; (try dsimp only at hSw); go_simp; (try with_reducible rfl))
                  (try simp only [Act.put, List.getElem_toArray, List.getElem_cons_zero, List.getElem_cons_succ, List.setIfInBounds_toArray, List.set_cons_zero, List.set_cons_succ])
                  refine wpAnyH_take (i := 12) (oi := ({ dst := some 49, op := .move (.tmp 5), type := 42, pos := "ref.go:190", after := #[⟨11, .guard⟩], guard := some (11, false) } : Go.Oper)) (v := ?v103) rfl (by kernel_rfl) (by kernel_rfl) (by kernel_rfl) (fun _ _ _ h => h) (Or.inl ⟨by rfl, ?hy103⟩) (by assumption) ?rest103
                  case hy103 => (intro w hSw; (try dsimp only at hSw); go_simp; (try with_reducible rfl))
                  (try simp only [Act.put, List.getElem_toArray, List.getElem_cons_zero, List.getElem_cons_succ, List.setIfInBounds_toArray, List.set_cons_zero, List.set_cons_succ])
                  refine wpAnyH_take (i := 13) (oi := ({ dst := some 50, op := .move (.tmp 5), type := 42, pos := "ref.go:190", after := #[⟨11, .guard⟩], guard := some (11, false) } : Go.Oper)) (v := ?v104) rfl (by kernel_rfl) (by kernel_rfl) (by kernel_rfl) (fun _ _ _ h => h) (Or.inl ⟨by rfl, ?hy104⟩) (by assumption) ?rest104
                  case hy104 => (intro w hSw; (try dsimp only at hSw); go_simp; (try with_reducible rfl))
                  (try simp only [Act.put, List.getElem_toArray, List.getElem_cons_zero, List.getElem_cons_succ, List.setIfInBounds_toArray, List.set_cons_zero, List.set_cons_succ])
                  refine wpAnyH_take (i := 14) (oi := ({ dst := some 51, op := .call { callee := .builtin .len, args := #[.tmp 50], argTypes := #[42] }, type := 3, pos := "ref.go:190", after := #[⟨13, .data⟩, ⟨11, .guard⟩], guard := some (11, false) } : Go.Oper)) (v := ?v105) rfl (by kernel_rfl) (by kernel_rfl) (by kernel_rfl) (fun _ _ _ h => h) (Or.inl ⟨by rfl, ?hy105⟩) (by assumption) ?rest105
                  case hy105 => (intro w hSw; (try dsimp only at hSw); go_simp; (try with_reducible rfl))
                  (try simp only [Act.put, List.getElem_toArray, List.getElem_cons_zero, List.getElem_cons_succ, List.setIfInBounds_toArray, List.set_cons_zero, List.set_cons_succ])
                  refine wpAnyH_take (i := 15) (oi := ({ dst := some 52, op := .binOp .sub 3 (.tmp 51) (.const (.int .i64 1)) 3, type := 3, pos := "ref.go:190", after := #[⟨14, .data⟩, ⟨11, .guard⟩], guard := some (11, false) } : Go.Oper)) (v := ?v106) rfl (by kernel_rfl) (by kernel_rfl) (by kernel_rfl) (fun _ _ _ h => h) (Or.inl ⟨by rfl, ?hy106⟩) (by assumption) ?rest106
                  case hy106 => (intro w hSw; (try dsimp only at hSw); go_simp; (try with_reducible rfl))
                  (try simp only [Act.put, List.getElem_toArray, List.getElem_cons_zero, List.getElem_cons_succ, List.setIfInBounds_toArray, List.set_cons_zero, List.set_cons_succ])
                  refine wpAnyH_take (i := 16) (oi := ({ dst := some 53, op := .indexAddr 42 (.tmp 49) (.tmp 52), type := 0, pos := "ref.go:190", after := #[⟨12, .data⟩, ⟨15, .data⟩, ⟨11, .guard⟩], guard := some (11, false) } : Go.Oper)) (v := ?v107) rfl (by kernel_rfl) (by kernel_rfl) (by kernel_rfl) (fun _ _ _ h => h) (Or.inl ⟨by rfl, ?hy107⟩) (by assumption) ?rest107
                  case hy107 => (intro w hSw; (try dsimp only at hSw); go_simp; (try with_reducible rfl))
                  (try simp only [Act.put, List.getElem_toArray, List.getElem_cons_zero, List.getElem_cons_succ, List.setIfInBounds_toArray, List.set_cons_zero, List.set_cons_succ])
                  refine wpAnyH_take (i := 17) (oi := ({ dst := some 54, op := .fieldAddr 25 (.tmp 53) 0, type := 0, pos := "ref.go:190", after := #[⟨16, .data⟩, ⟨11, .guard⟩], guard := some (11, false) } : Go.Oper)) (v := ?v108) rfl (by kernel_rfl) (by kernel_rfl) (by kernel_rfl) (fun _ _ _ h => h) (Or.inl ⟨by rfl, ?hy108⟩) (by assumption) ?rest108
                  case hy108 => (intro w hSw; (try dsimp only at hSw); go_simp; (try with_reducible rfl))
                  (try simp only [Act.put, List.getElem_toArray, List.getElem_cons_zero, List.getElem_cons_succ, List.setIfInBounds_toArray, List.set_cons_zero, List.set_cons_succ])
                  refine wpAnyH_take (i := 18) (oi := ({ dst := some 55, op := .load 22 (.tmp 54), type := 22, pos := "ref.go:190", after := #[⟨17, .data⟩, ⟨11, .guard⟩], guard := some (11, false) } : Go.Oper)) (v := ?v109) rfl (by kernel_rfl) (by kernel_rfl) (by kernel_rfl) (fun _ _ _ h => h) (Or.inl ⟨by rfl, ?hy109⟩) (by assumption) ?rest109
                  case hy109 => (intro w hSw; (try dsimp only at hSw); go_simp; (try with_reducible rfl))
                  (try simp only [Act.put, List.getElem_toArray, List.getElem_cons_zero, List.getElem_cons_succ, List.setIfInBounds_toArray, List.set_cons_zero, List.set_cons_succ])
                  refine wpAnyH_take (i := 20) (oi := ({ dst := some 57, op := .move (.tmp 0), type := 42, pos := "ref.go:190", after := #[⟨11, .guard⟩], guard := some (11, false) } : Go.Oper)) (v := ?v110) rfl (by kernel_rfl) (by kernel_rfl) (by kernel_rfl) (fun _ _ _ h => h) (Or.inl ⟨by rfl, ?hy110⟩) (by assumption) ?rest110
                  case hy110 => (intro w hSw; (try dsimp only at hSw); go_simp; (try with_reducible rfl))
                  (try simp only [Act.put, List.getElem_toArray, List.getElem_cons_zero, List.getElem_cons_succ, List.setIfInBounds_toArray, List.set_cons_zero, List.set_cons_succ])
                  refine wpAnyH_take (i := 21) (oi := ({ dst := some 58, op := .move (.tmp 6), type := 3, pos := "ref.go:190", after := #[⟨11, .guard⟩], guard := some (11, false) } : Go.Oper)) (v := ?v111) rfl (by kernel_rfl) (by kernel_rfl) (by kernel_rfl) (fun _ _ _ h => h) (Or.inl ⟨by rfl, ?hy111⟩) (by assumption) ?rest111
                  case hy111 => (intro w hSw; (try dsimp only at hSw); go_simp; (try with_reducible rfl))
                  (try simp only [Act.put, List.getElem_toArray, List.getElem_cons_zero, List.getElem_cons_succ, List.setIfInBounds_toArray, List.set_cons_zero, List.set_cons_succ])
                  refine wpAnyH_take (i := 22) (oi := ({ dst := some 59, op := .indexAddr 42 (.tmp 57) (.tmp 58), type := 0, pos := "ref.go:190", after := #[⟨20, .data⟩, ⟨21, .data⟩, ⟨11, .guard⟩], guard := some (11, false) } : Go.Oper)) (v := ?v112) rfl (by kernel_rfl) (by kernel_rfl) (by kernel_rfl) (fun _ _ _ h => h) (Or.inl ⟨by rfl, ?hy112⟩) (by assumption) ?rest112
                  case hy112 => (intro w hSw; (try dsimp only at hSw); go_simp; (try with_reducible rfl))
                  (try simp only [Act.put, List.getElem_toArray, List.getElem_cons_zero, List.getElem_cons_succ, List.setIfInBounds_toArray, List.set_cons_zero, List.set_cons_succ])
                  refine wpAnyH_take (i := 23) (oi := ({ dst := some 60, op := .fieldAddr 25 (.tmp 59) 0, type := 0, pos := "ref.go:190", after := #[⟨22, .data⟩, ⟨11, .guard⟩], guard := some (11, false) } : Go.Oper)) (v := ?v113) rfl (by kernel_rfl) (by kernel_rfl) (by kernel_rfl) (fun _ _ _ h => h) (Or.inl ⟨by rfl, ?hy113⟩) (by assumption) ?rest113
                  case hy113 => (intro w hSw; (try dsimp only at hSw); go_simp; (try with_reducible rfl))
                  (try simp only [Act.put, List.getElem_toArray, List.getElem_cons_zero, List.getElem_cons_succ, List.setIfInBounds_toArray, List.set_cons_zero, List.set_cons_succ])
                  refine wpAnyH_take (i := 24) (oi := ({ dst := some 61, op := .load 22 (.tmp 60), type := 22, pos := "ref.go:190", after := #[⟨23, .data⟩, ⟨11, .guard⟩], guard := some (11, false) } : Go.Oper)) (v := ?v114) rfl (by kernel_rfl) (by kernel_rfl) (by kernel_rfl) (fun _ _ _ h => h) (Or.inl ⟨by rfl, ?hy114⟩) (by assumption) ?rest114
                  case hy114 => (intro w hSw; (try dsimp only at hSw); go_simp; (try with_reducible rfl))
                  (try simp only [Act.put, List.getElem_toArray, List.getElem_cons_zero, List.getElem_cons_succ, List.setIfInBounds_toArray, List.set_cons_zero, List.set_cons_succ])
                  refine wpAnyH_ready (rs := [19, 25]) (by kernel_rfl) (by simp) ?_
                  refine AllReadyH.cons (o := ({ dst := some 56, op := .convert 22 9 (.tmp 55), type := 9, pos := "ref.go:190", after := #[⟨18, .data⟩, ⟨11, .guard⟩], guard := some (11, false) } : Go.Oper)) rfl (fun K hK => ?one115) ?more115
                  case' one115 =>
                    go_simp; rw [Rd.str (P := Try.prog) (x := x.key) (?_ : Rd _ A5 n5 (x.key)) c5 22 5 9 Try.underlying22 Try.underlying5 Try.underlying9]; rotate_left; exact (HRQ.out.ext (by with_reducible (repeat (first | exact Ext.rfl_ _ | assumption | refine Ext.drew ?_ | refine Ext.drewN ?_ _ | refine Ext.alloc ?_ _ | refine Ext.trans ?_ (by assumption))))); simp only [Result.andThen]; go_simp
                    refine hK.out _ _ (by (try dsimp only); exact HS3.out _ (by with_reducible (repeat (first | exact Ext.rfl_ _ | assumption | refine Ext.drew ?_ | refine Ext.drewN ?_ _ | refine Ext.alloc ?_ _ | refine Ext.trans ?_ (by assumption))))) (fun hHeld => ?_)
                    clear hK K
                    (try simp only [Act.put, List.getElem_toArray, List.getElem_cons_zero, List.getElem_cons_succ, List.setIfInBounds_toArray, List.set_cons_zero, List.set_cons_succ])
                    refine wpAnyH_ready (rs := [25]) (by kernel_rfl) (by simp) ?_
                    refine AllReadyH.cons (o := ({ dst := some 62, op := .convert 22 9 (.tmp 61), type := 9, pos := "ref.go:190", after := #[⟨24, .data⟩, ⟨11, .guard⟩], guard := some (11, false) } : Go.Oper)) rfl (fun K hK => ?_) AllReadyH.nil
                    go_simp; rw [Rd.str (P := Try.prog) (x := x.key) (?_ : Rd _ A1 n1 (x.key)) c1' 22 5 9 Try.underlying22 Try.underlying5 Try.underlying9]; rotate_left; exact ((HKEY.out.ext xw).ext (by with_reducible (repeat (first | exact Ext.rfl_ _ | assumption | refine Ext.drew ?_ | refine Ext.drewN ?_ _ | refine Ext.alloc ?_ _ | refine Ext.trans ?_ (by assumption))))); simp only [Result.andThen]; go_simp
                    refine hK.out _ _ (by (try dsimp only); exact HS3.out _ (by with_reducible (repeat (first | exact Ext.rfl_ _ | assumption | refine Ext.drew ?_ | refine Ext.drewN ?_ _ | refine Ext.alloc ?_ _ | refine Ext.trans ?_ (by assumption))))) (fun hHeld => ?_)
                    clear hK K
                    (try simp only [Act.put, List.getElem_toArray, List.getElem_cons_zero, List.getElem_cons_succ, List.setIfInBounds_toArray, List.set_cons_zero, List.set_cons_succ])
                    refine wpAnyH_take (i := 26) (oi := ({ dst := some 63, op := .binOp .neq 9 (.tmp 56) (.tmp 62) 9, type := 4, pos := "ref.go:190", after := #[⟨19, .data⟩, ⟨25, .data⟩, ⟨11, .guard⟩], guard := some (11, false) } : Go.Oper)) (v := ?v116) rfl (by kernel_rfl) (by kernel_rfl) (by kernel_rfl) (fun _ _ _ h => h) (Or.inl ⟨by rfl, ?hy116⟩) (by assumption) ?rest116
                    case hy116 => (intro w hSw; (try dsimp only at hSw); go_simp; (try with_reducible rfl))
                    (try simp only [Act.put, List.getElem_toArray, List.getElem_cons_zero, List.getElem_cons_succ, List.setIfInBounds_toArray, List.set_cons_zero, List.set_cons_succ])
                    refine wpAnyH_take (i := 27) (oi := ({ dst := some 64, op := .pick (.tmp 48) (.const (.bool true)) (.tmp 63), type := 4, pos := "ref.go:190", after := #[⟨11, .data⟩, ⟨26, .data⟩, ⟨7, .guard⟩], guard := some (7, true) } : Go.Oper)) (v := ?v117) rfl (by kernel_rfl) (by kernel_rfl) (by kernel_rfl) (fun _ _ _ h => h) (Or.inl ⟨by rfl, ?hy117⟩) (by assumption) ?rest117
                    case hy117 => (intro w hSw; (try dsimp only at hSw); go_simp; (try with_reducible rfl))
                    (try simp only [Act.put, List.getElem_toArray, List.getElem_cons_zero, List.getElem_cons_succ, List.setIfInBounds_toArray, List.set_cons_zero, List.set_cons_succ])
                    refine wpAnyH_take (i := 28) (oi := ({ dst := some 65, op := .pick (.tmp 44) (.tmp 64) (.const (.bool false)), type := 4, pos := "ref.go:190", after := #[⟨7, .data⟩, ⟨27, .data⟩], guard := none } : Go.Oper)) (v := ?v118) rfl (by kernel_rfl) (by kernel_rfl) (by kernel_rfl) (fun _ _ _ h => h) (Or.inl ⟨by rfl, ?hy118⟩) (by assumption) ?rest118
                    case hy118 => (intro w hSw; (try dsimp only at hSw); go_simp; (try with_reducible rfl))
                    (try simp only [Act.put, List.getElem_toArray, List.getElem_cons_zero, List.getElem_cons_succ, List.setIfInBounds_toArray, List.set_cons_zero, List.set_cons_succ])
                    refine wpAnyH_done (by kernel_rfl) ?_ _
                  case' more115 =>
                    refine AllReadyH.cons (o := ({ dst := some 62, op := .convert 22 9 (.tmp 61), type := 9, pos := "ref.go:190", after := #[⟨24, .data⟩, ⟨11, .guard⟩], guard := some (11, false) } : Go.Oper)) rfl (fun K hK => ?_) AllReadyH.nil
                    go_simp; rw [Rd.str (P := Try.prog) (x := x.key) (?_ : Rd _ A1 n1 (x.key)) c1' 22 5 9 Try.underlying22 Try.underlying5 Try.underlying9]; rotate_left; exact ((HKEY.out.ext xw).ext (by with_reducible (repeat (first | exact Ext.rfl_ _ | assumption | refine Ext.drew ?_ | refine Ext.drewN ?_ _ | refine Ext.alloc ?_ _ | refine Ext.trans ?_ (by assumption))))); simp only [Result.andThen]; go_simp
                    refine hK.out _ _ (by (try dsimp only); exact HS3.out _ (by with_reducible (repeat (first | exact Ext.rfl_ _ | assumption | refine Ext.drew ?_ | refine Ext.drewN ?_ _ | refine Ext.alloc ?_ _ | refine Ext.trans ?_ (by assumption))))) (fun hHeld => ?_)
                    clear hK K
                    (try simp only [Act.put, List.getElem_toArray, List.getElem_cons_zero, List.getElem_cons_succ, List.setIfInBounds_toArray, List.set_cons_zero, List.set_cons_succ])
                    refine wpAnyH_ready (rs := [19]) (by kernel_rfl) (by simp) ?_
                    refine AllReadyH.cons (o := ({ dst := some 56, op := .convert 22 9 (.tmp 55), type := 9, pos := "ref.go:190", after := #[⟨18, .data⟩, ⟨11, .guard⟩], guard := some (11, false) } : Go.Oper)) rfl (fun K hK => ?_) AllReadyH.nil
                    go_simp; rw [Rd.str (P := Try.prog) (x := x.key) (?_ : Rd _ A5 n5 (x.key)) c5 22 5 9 Try.underlying22 Try.underlying5 Try.underlying9]; rotate_left; exact (HRQ.out.ext (by with_reducible (repeat (first | exact Ext.rfl_ _ | assumption | refine Ext.drew ?_ | refine Ext.drewN ?_ _ | refine Ext.alloc ?_ _ | refine Ext.trans ?_ (by assumption))))); simp only [Result.andThen]; go_simp
                    refine hK.out _ _ (by (try dsimp only); exact HS3.out _ (by with_reducible (repeat (first | exact Ext.rfl_ _ | assumption | refine Ext.drew ?_ | refine Ext.drewN ?_ _ | refine Ext.alloc ?_ _ | refine Ext.trans ?_ (by assumption))))) (fun hHeld => ?_)
                    clear hK K
                    (try simp only [Act.put, List.getElem_toArray, List.getElem_cons_zero, List.getElem_cons_succ, List.setIfInBounds_toArray, List.set_cons_zero, List.set_cons_succ])
                    refine wpAnyH_take (i := 26) (oi := ({ dst := some 63, op := .binOp .neq 9 (.tmp 56) (.tmp 62) 9, type := 4, pos := "ref.go:190", after := #[⟨19, .data⟩, ⟨25, .data⟩, ⟨11, .guard⟩], guard := some (11, false) } : Go.Oper)) (v := ?v119) rfl (by kernel_rfl) (by kernel_rfl) (by kernel_rfl) (fun _ _ _ h => h) (Or.inl ⟨by rfl, ?hy119⟩) (by assumption) ?rest119
                    case hy119 => (intro w hSw; (try dsimp only at hSw); go_simp; (try with_reducible rfl))
                    (try simp only [Act.put, List.getElem_toArray, List.getElem_cons_zero, List.getElem_cons_succ, List.setIfInBounds_toArray, List.set_cons_zero, List.set_cons_succ])
                    refine wpAnyH_take (i := 27) (oi := ({ dst := some 64, op := .pick (.tmp 48) (.const (.bool true)) (.tmp 63), type := 4, pos := "ref.go:190", after := #[⟨11, .data⟩, ⟨26, .data⟩, ⟨7, .guard⟩], guard := some (7, true) } : Go.Oper)) (v := ?v120) rfl (by kernel_rfl) (by kernel_rfl) (by kernel_rfl) (fun _ _ _ h => h) (Or.inl ⟨by rfl, ?hy120⟩) (by assumption) ?rest120
                    case hy120 => (intro w hSw; (try dsimp only at hSw); go_simp; (try with_reducible rfl))
                    (try simp only [Act.put, List.getElem_toArray, List.getElem_cons_zero, List.getElem_cons_succ, List.setIfInBounds_toArray, List.set_cons_zero, List.set_cons_succ])
                    refine wpAnyH_take (i := 28) (oi := ({ dst := some 65, op := .pick (.tmp 44) (.tmp 64) (.const (.bool false)), type := 4, pos := "ref.go:190", after := #[⟨7, .data⟩, ⟨27, .data⟩], guard := none } : Go.Oper)) (v := ?v121) rfl (by kernel_rfl) (by kernel_rfl) (by kernel_rfl) (fun _ _ _ h => h) (Or.inl ⟨by rfl, ?hy121⟩) (by assumption) ?rest121
                    case hy121 => (intro w hSw; (try dsimp only at hSw); go_simp; (try with_reducible rfl))
                    (try simp only [Act.put, List.getElem_toArray, List.getElem_cons_zero, List.getElem_cons_succ, List.setIfInBounds_toArray, List.set_cons_zero, List.set_cons_succ])
                    refine wpAnyH_done (by kernel_rfl) ?_ _
                  all_goals
                    go_wp2
                    go_roundw
                    case rel =>
                      refine ⟨k + 1, by go_num, by omega, Lib.hid (ris_go HKE.out h1.out (by rw [HXE.out]; exact HGO.out)), Lib.hid ?_, (by with_reducible (repeat (first | exact Ext.rfl_ _ | assumption | refine Ext.drew ?_ | refine Ext.drewN ?_ _ | refine Ext.alloc ?_ _ | refine Ext.trans ?_ (by assumption))))⟩
                      rw [List.take_succ_eq_append_getElem HKE.out, HXE.out, HSK.out.1]; exact HO2.out.ext (by with_reducible (repeat (first | exact Ext.rfl_ _ | assumption | refine Ext.drew ?_ | refine Ext.drewN ?_ _ | refine Ext.alloc ?_ _ | refine Ext.trans ?_ (by assumption))))
                    case measure => simp [intOf]; omega
                · have sk : ((⟨z.key.toArray⟩ : ByteArray) == ⟨x.key.toArray⟩) = false := str_ne t3
                  have sk2 : ((⟨z.key.toArray⟩ : ByteArray) != ⟨x.key.toArray⟩) = true := by simp [bne, sk]
                  have sk3 : (z.key == x.key) = false := by simpa using t3
                  have htk := latL_take (s := s) (p := []) (pre := xs.take k) (x := x) (fun h => by rcases h with h | h; omega; rw [HLK.out] at h; exact t3 h)
                  have HTK := Lib.hid htk
                  clear htk
                  clear t3
                  go_wp2
                  refine wp_region_held_drew (S := (fun W => (W.cell? ⟨b, o + k * 4, none⟩ = some (.slice A1 n1 c1') ∧ W.cell? ⟨b, o + k * 4 + 1, none⟩ = some (.int .i64 x.seq) ∧ W.cell? ⟨b, o + k * 4 + 2, none⟩ = some (.int .i64 x.kind) ∧ W.cell? ⟨b, o + k * 4 + 3, none⟩ = some (.slice A2 n2 c2')) ∧ (W.cell? ⟨b5, o5 + (n' - 1) * 4, none⟩ = some (.slice A5 n5 c5) ∧ W.cell? ⟨b5, o5 + (n' - 1) * 4 + 1, none⟩ = some (.int .i64 z.seq) ∧ W.cell? ⟨b5, o5 + (n' - 1) * 4 + 2, none⟩ = some (.int .i64 z.kind) ∧ W.cell? ⟨b5, o5 + (n' - 1) * 4 + 3, none⟩ = some (.slice A6 n6 c6)))) (by kernel_rfl) (by (try dsimp only); exact HS3.out _ (by with_reducible (repeat (first | exact Ext.rfl_ _ | assumption | refine Ext.drew ?_ | refine Ext.drewN ?_ _ | refine Ext.alloc ?_ _ | refine Ext.trans ?_ (by assumption))))) (fun hHeld => ?_)
                  refine wpAnyH_take (i := 0) (oi := ({ dst := some 37, op := .move (.tmp 0), type := 42, pos := "ref.go:190", after := #[], guard := none } : Go.Oper)) (v := ?v122) rfl (by kernel_rfl) (by kernel_rfl) (by kernel_rfl) (fun _ _ _ h => h) (Or.inl ⟨by rfl, ?hy122⟩) (by assumption) ?rest122
                  case hy122 => (intro w hSw; (try dsimp only at hSw); go_simp; (try with_reducible rfl))
                  (try simp only [Act.put, List.getElem_toArray, List.getElem_cons_zero, List.getElem_cons_succ, List.setIfInBounds_toArray, List.set_cons_zero, List.set_cons_succ])
                  refine wpAnyH_take (i := 1) (oi := ({ dst := some 38, op := .move (.tmp 6), type := 3, pos := "ref.go:190", after := #[], guard := none } : Go.Oper)) (v := ?v123) rfl (by kernel_rfl) (by kernel_rfl) (by kernel_rfl) (fun _ _ _ h => h) (Or.inl ⟨by rfl, ?hy123⟩) (by assumption) ?rest123
                  case hy123 => (intro w hSw; (try dsimp only at hSw); go_simp; (try with_reducible rfl))
                  (try simp only [Act.put, List.getElem_toArray, List.getElem_cons_zero, List.getElem_cons_succ, List.setIfInBounds_toArray, List.set_cons_zero, List.set_cons_succ])
                  refine wpAnyH_take (i := 2) (oi := ({ dst := some 39, op := .indexAddr 42 (.tmp 37) (.tmp 38), type := 0, pos := "ref.go:190", after := #[⟨0, .data⟩, ⟨1, .data⟩], guard := none } : Go.Oper)) (v := ?v124) rfl (by kernel_rfl) (by kernel_rfl) (by kernel_rfl) (fun _ _ _ h => h) (Or.inl ⟨by rfl, ?hy124⟩) (by assumption) ?rest124
                  case hy124 => (intro w hSw; (try dsimp only at hSw); go_simp; (try with_reducible rfl))
                  (try simp only [Act.put, List.getElem_toArray, List.getElem_cons_zero, List.getElem_cons_succ, List.setIfInBounds_toArray, List.set_cons_zero, List.set_cons_succ])
                  refine wpAnyH_take (i := 3) (oi := ({ dst := some 40, op := .fieldAddr 25 (.tmp 39) 1, type := 0, pos := "ref.go:190", after := #[⟨2, .data⟩], guard := none } : Go.Oper)) (v := ?v125) rfl (by kernel_rfl) (by kernel_rfl) (by kernel_rfl) (fun _ _ _ h => h) (Or.inl ⟨by rfl, ?hy125⟩) (by assumption) ?rest125
                  case hy125 => (intro w hSw; (try dsimp only at hSw); go_simp; (try with_reducible rfl))
                  (try simp only [Act.put, List.getElem_toArray, List.getElem_cons_zero, List.getElem_cons_succ, List.setIfInBounds_toArray, List.set_cons_zero, List.set_cons_succ])
                  refine wpAnyH_take (i := 4) (oi := ({ dst := some 41, op := .load 2 (.tmp 40), type := 2, pos := "ref.go:190", after := #[⟨3, .data⟩], guard := none } : Go.Oper)) (v := ?v126) rfl (by kernel_rfl) (by kernel_rfl) (by kernel_rfl) (fun _ _ _ h => h) (Or.inl ⟨by rfl, ?hy126⟩) (by assumption) ?rest126
                  case hy126 => (intro w hSw; (try dsimp only at hSw); go_simp; (try with_reducible rfl))
                  (try simp only [Act.put, List.getElem_toArray, List.getElem_cons_zero, List.getElem_cons_succ, List.setIfInBounds_toArray, List.set_cons_zero, List.set_cons_succ])
                  refine wpAnyH_take (i := 5) (oi := ({ dst := some 42, op := .move (.tmp 1), type := 2, pos := "ref.go:190", after := #[], guard := none } : Go.Oper)) (v := ?v127) rfl (by kernel_rfl) (by kernel_rfl) (by kernel_rfl) (fun _ _ _ h => h) (Or.inl ⟨by rfl, ?hy127⟩) (by assumption) ?rest127
                  case hy127 => (intro w hSw; (try dsimp only at hSw); go_simp; (try with_reducible rfl))
                  (try simp only [Act.put, List.getElem_toArray, List.getElem_cons_zero, List.getElem_cons_succ, List.setIfInBounds_toArray, List.set_cons_zero, List.set_cons_succ])
                  refine wpAnyH_take (i := 6) (oi := ({ dst := some 43, op := .binOp .leq 2 (.tmp 41) (.tmp 42) 2, type := 4, pos := "ref.go:190", after := #[⟨4, .data⟩, ⟨5, .data⟩], guard := none } : Go.Oper)) (v := ?v128) rfl (by kernel_rfl) (by kernel_rfl) (by kernel_rfl) (fun _ _ _ h => h) (Or.inl ⟨by rfl, ?hy128⟩) (by assumption) ?rest128
                  case hy128 => (intro w hSw; (try dsimp only at hSw); go_simp; (try with_reducible rfl))
                  (try simp only [Act.put, List.getElem_toArray, List.getElem_cons_zero, List.getElem_cons_succ, List.setIfInBounds_toArray, List.set_cons_zero, List.set_cons_succ])
                  refine wpAnyH_take (i := 7) (oi := ({ dst := some 44, op := .move (.tmp 43), type := 4, pos := "ref.go:190", after := #[⟨6, .data⟩], guard := none } : Go.Oper)) (v := ?v129) rfl (by kernel_rfl) (by kernel_rfl) (by kernel_rfl) (fun _ _ _ h => h) (Or.inl ⟨by rfl, ?hy129⟩) (by assumption) ?rest129
                  case hy129 => (intro w hSw; (try dsimp only at hSw); go_simp; (try with_reducible rfl))
                  (try simp only [Act.put, List.getElem_toArray, List.getElem_cons_zero, List.getElem_cons_succ, List.setIfInBounds_toArray, List.set_cons_zero, List.set_cons_succ])
                  refine wpAnyH_take (i := 8) (oi := ({ dst := some 45, op := .move (.tmp 5), type := 42, pos := "ref.go:190", after := #[⟨7, .guard⟩], guard := some (7, true) } : Go.Oper)) (v := ?v130) rfl (by kernel_rfl) (by kernel_rfl) (by kernel_rfl) (fun _ _ _ h => h) (Or.inl ⟨by rfl, ?hy130⟩) (by assumption) ?rest130
                  case hy130 => (intro w hSw; (try dsimp only at hSw); go_simp; (try with_reducible rfl))
                  (try simp only [Act.put, List.getElem_toArray, List.getElem_cons_zero, List.getElem_cons_succ, List.setIfInBounds_toArray, List.set_cons_zero, List.set_cons_succ])
                  refine wpAnyH_take (i := 9) (oi := ({ dst := some 46, op := .call { callee := .builtin .len, args := #[.tmp 45], argTypes := #[42] }, type := 3, pos := "ref.go:190", after := #[⟨8, .data⟩, ⟨7, .guard⟩], guard := some (7, true) } : Go.Oper)) (v := ?v131) rfl (by kernel_rfl) (by kernel_rfl) (by kernel_rfl) (fun _ _ _ h => h) (Or.inl ⟨by rfl, ?hy131⟩) (by assumption) ?rest131
                  case hy131 => (intro w hSw; (try dsimp only at hSw); go_simp; (try with_reducible rfl))
                  (try simp only [Act.put, List.getElem_toArray, List.getElem_cons_zero, List.getElem_cons_succ, List.setIfInBounds_toArray, List.set_cons_zero, List.set_cons_succ])
                  refine wpAnyH_take (i := 10) (oi := ({ dst := some 47, op := .binOp .eql 3 (.tmp 46) (.const (.int .i64 0)) 3, type := 4, pos := "ref.go:190", after := #[⟨9, .data⟩, ⟨7, .guard⟩], guard := some (7, true) } : Go.Oper)) (v := ?v132) rfl (by kernel_rfl) (by kernel_rfl) (by kernel_rfl) (fun _ _ _ h => h) (Or.inl ⟨by rfl, ?hy132⟩) (by assumption) ?rest132
                  case hy132 => (intro w hSw; (try dsimp only at hSw); go_simp; (try with_reducible rfl))
                  (try simp only [Act.put, List.getElem_toArray, List.getElem_cons_zero, List.getElem_cons_succ, List.setIfInBounds_toArray, List.set_cons_zero, List.set_cons_succ])
                  refine wpAnyH_take (i := 11) (oi := ({ dst := some 48, op := .move (.tmp 47), type := 4, pos := "ref.go:190", after := #[⟨10, .data⟩, ⟨7, .chain⟩, ⟨7, .guard⟩], guard := some (7, true) } : Go.Oper)) (v := ?v133) rfl (by kernel_rfl) (by kernel_rfl) (by kernel_rfl) (fun _ _ _ h => h) (Or.inl ⟨by rfl, ?hy133⟩) (by assumption) ?rest133
                  case hy133 => (intro w hSw; (try dsimp only at hSw); go_simp; (try with_reducible rfl))
                  (try simp only [Act.put, List.getElem_toArray, List.getElem_cons_zero, List.getElem_cons_succ, List.setIfInBounds_toArray, List.set_cons_zero, List.set_cons_succ])
                  refine wpAnyH_take (i := 12) (oi := ({ dst := some 49, op := .move (.tmp 5), type := 42, pos := "ref.go:190", after := #[⟨11, .guard⟩], guard := some (11, false) } : Go.Oper)) (v := ?v134) rfl (by kernel_rfl) (by kernel_rfl) (by kernel_rfl) (fun _ _ _ h => h) (Or.inl ⟨by rfl, ?hy134⟩) (by assumption) ?rest134
                  case hy134 => (intro w hSw; (try dsimp only at hSw); go_simp; (try with_reducible rfl))
                  (try simp only [Act.put, List.getElem_toArray, List.getElem_cons_zero, List.getElem_cons_succ, List.setIfInBounds_toArray, List.set_cons_zero, List.set_cons_succ])
                  refine wpAnyH_take (i := 13) (oi := ({ dst := some 50, op := .move (.tmp 5), type := 42, pos := "ref.go:190", after := #[⟨11, .guard⟩], guard := some (11, false) } : Go.Oper)) (v := ?v135) rfl (by kernel_rfl) (by kernel_rfl) (by kernel_rfl) (fun _ _ _ h => h) (Or.inl ⟨by rfl, ?hy135⟩) (by assumption) ?rest135
                  case hy135 => (intro w hSw; (try dsimp only at hSw); go_simp; (try with_reducible rfl))
                  (try simp only [Act.put, List.getElem_toArray, List.getElem_cons_zero, List.getElem_cons_succ, List.setIfInBounds_toArray, List.set_cons_zero, List.set_cons_succ])
                  refine wpAnyH_take (i := 14) (oi := ({ dst := some 51, op := .call { callee := .builtin .len, args := #[.tmp 50], argTypes := #[42] }, type := 3, pos := "ref.go:190", after := #[⟨13, .data⟩, ⟨11, .guard⟩], guard := some (11, false) } : Go.Oper)) (v := ?v136) rfl (by kernel_rfl) (by kernel_rfl) (by kernel_rfl) (fun _ _ _ h => h) (Or.inl ⟨by rfl, ?hy136⟩) (by assumption) ?rest136
                  case hy136 => (intro w hSw; (try dsimp only at hSw); go_simp; (try with_reducible rfl))
                  (try simp only [Act.put, List.getElem_toArray, List.getElem_cons_zero, List.getElem_cons_succ, List.setIfInBounds_toArray, List.set_cons_zero, List.set_cons_succ])
                  refine wpAnyH_take (i := 15) (oi := ({ dst := some 52, op := .binOp .sub 3 (.tmp 51) (.const (.int .i64 1)) 3, type := 3, pos := "ref.go:190", after := #[⟨14, .data⟩, ⟨11, .guard⟩], guard := some (11, false) } : Go.Oper)) (v := ?v137) rfl (by kernel_rfl) (by kernel_rfl) (by kernel_rfl) (fun _ _ _ h => h) (Or.inl ⟨by rfl, ?hy137⟩) (by assumption) ?rest137
                  case hy137 => (intro w hSw; (try dsimp only at hSw); go_simp; (try with_reducible rfl))
                  (try simp only [Act.put, List.getElem_toArray, List.getElem_cons_zero, List.getElem_cons_succ, List.setIfInBounds_toArray, List.set_cons_zero, List.set_cons_succ])
                  refine wpAnyH_take (i := 16) (oi := ({ dst := some 53, op := .indexAddr 42 (.tmp 49) (.tmp 52), type := 0, pos := "ref.go:190", after := #[⟨12, .data⟩, ⟨15, .data⟩, ⟨11, .guard⟩], guard := some (11, false) } : Go.Oper)) (v := ?v138) rfl (by kernel_rfl) (by kernel_rfl) (by kernel_rfl) (fun _ _ _ h => h) (Or.inl ⟨by rfl, ?hy138⟩) (by assumption) ?rest138
                  case hy138 => (intro w hSw; (try dsimp only at hSw); go_simp; (try with_reducible rfl))
                  (try simp only [Act.put, List.getElem_toArray, List.getElem_cons_zero, List.getElem_cons_succ, List.setIfInBounds_toArray, List.set_cons_zero, List.set_cons_succ])
                  refine wpAnyH_take (i := 17) (oi := ({ dst := some 54, op := .fieldAddr 25 (.tmp 53) 0, type := 0, pos := "ref.go:190", after := #[⟨16, .data⟩, ⟨11, .guard⟩], guard := some (11, false) } : Go.Oper)) (v := ?v139) rfl (by kernel_rfl) (by kernel_rfl) (by kernel_rfl) (fun _ _ _ h => h) (Or.inl ⟨by rfl, ?hy139⟩) (by assumption) ?rest139
                  case hy139 => (intro w hSw; (try dsimp only at hSw); go_simp; (try with_reducible rfl))
                  (try simp only [Act.put, List.getElem_toArray, List.getElem_cons_zero, List.getElem_cons_succ, List.setIfInBounds_toArray, List.set_cons_zero, List.set_cons_succ])
                  refine wpAnyH_take (i := 18) (oi := ({ dst := some 55, op := .load 22 (.tmp 54), type := 22, pos := "ref.go:190", after := #[⟨17, .data⟩, ⟨11, .guard⟩], guard := some (11, false) } : Go.Oper)) (v := ?v140) rfl (by kernel_rfl) (by kernel_rfl) (by kernel_rfl) (fun _ _ _ h => h) (Or.inl ⟨by rfl, ?hy140⟩) (by assumption) ?rest140
                  case hy140 => (intro w hSw; (try dsimp only at hSw); go_simp; (try with_reducible rfl))
                  (try simp only [Act.put, List.getElem_toArray, List.getElem_cons_zero, List.getElem_cons_succ, List.setIfInBounds_toArray, List.set_cons_zero, List.set_cons_succ])
                  refine wpAnyH_take (i := 20) (oi := ({ dst := some 57, op := .move (.tmp 0), type := 42, pos := "ref.go:190", after := #[⟨11, .guard⟩], guard := some (11, false) } : Go.Oper)) (v := ?v141) rfl (by kernel_rfl) (by kernel_rfl) (by kernel_rfl) (fun _ _ _ h => h) (Or.inl ⟨by rfl, ?hy141⟩) (by assumption) ?rest141
                  case hy141 => (intro w hSw; (try dsimp only at hSw); go_simp; (try with_reducible rfl))
                  (try simp only [Act.put, List.getElem_toArray, List.getElem_cons_zero, List.getElem_cons_succ, List.setIfInBounds_toArray, List.set_cons_zero, List.set_cons_succ])
                  refine wpAnyH_take (i := 21) (oi := ({ dst := some 58, op := .move (.tmp 6), type := 3, pos := "ref.go:190", after := #[⟨11, .guard⟩], guard := some (11, false) } : Go.Oper)) (v := ?v142) rfl (by kernel_rfl) (by kernel_rfl) (by kernel_rfl) (fun _ _ _ h => h) (Or.inl ⟨by rfl, ?hy142⟩) (by assumption) ?rest142
                  case hy142 => (intro w hSw; (try dsimp only at hSw); go_simp; (try with_reducible rfl))
                  (try simp only [Act.put, List.getElem_toArray, List.getElem_cons_zero, List.getElem_cons_succ, List.setIfInBounds_toArray, List.set_cons_zero, List.set_cons_succ])
                  refine wpAnyH_take (i := 22) (oi := ({ dst := some 59, op := .indexAddr 42 (.tmp 57) (.tmp 58), type := 0, pos := "ref.go:190", after := #[⟨20, .data⟩, ⟨21, .data⟩, ⟨11, .guard⟩], guard := some (11, false) } : Go.Oper)) (v := ?v143) rfl (by kernel_rfl) (by kernel_rfl) (by kernel_rfl) (fun _ _ _ h => h) (Or.inl ⟨by rfl, ?hy143⟩) (by assumption) ?rest143
                  case hy143 => (intro w hSw; (try dsimp only at hSw); go_simp; (try with_reducible rfl))
                  (try simp only [Act.put, List.getElem_toArray, List.getElem_cons_zero, List.getElem_cons_succ, List.setIfInBounds_toArray, List.set_cons_zero, List.set_cons_succ])
                  refine wpAnyH_take (i := 23) (oi := ({ dst := some 60, op := .fieldAddr 25 (.tmp 59) 0, type := 0, pos := "ref.go:190", after := #[⟨22, .data⟩, ⟨11, .guard⟩], guard := some (11, false) } : Go.Oper)) (v := ?v144) rfl (by kernel_rfl) (by kernel_rfl) (by kernel_rfl) (fun _ _ _ h => h) (Or.inl ⟨by rfl, ?hy144⟩) (by assumption) ?rest144
                  case hy144 => (intro w hSw; (try dsimp only at hSw); go_simp; (try with_reducible rfl))
                  (try simp only [Act.put, List.getElem_toArray, List.getElem_cons_zero, List.getElem_cons_succ, List.setIfInBounds_toArray, List.set_cons_zero, List.set_cons_succ])
                  refine wpAnyH_take (i := 24) (oi := ({ dst := some 61, op := .load 22 (.tmp 60), type := 22, pos := "ref.go:190", after := #[⟨23, .data⟩, ⟨11, .guard⟩], guard := some (11, false) } : Go.Oper)) (v := ?v145) rfl (by kernel_rfl) (by kernel_rfl) (by kernel_rfl) (fun _ _ _ h => h) (Or.inl ⟨by rfl, ?hy145⟩) (by assumption) ?rest145
                  case hy145 => (intro w hSw; (try dsimp only at hSw); go_simp; (try with_reducible rfl))
                  (try simp only [Act.put, List.getElem_toArray, List.getElem_cons_zero, List.getElem_cons_succ, List.setIfInBounds_toArray, List.set_cons_zero, List.set_cons_succ])
                  refine wpAnyH_ready (rs := [19, 25]) (by kernel_rfl) (by simp) ?_
                  refine AllReadyH.cons (o := ({ dst := some 56, op := .convert 22 9 (.tmp 55), type := 9, pos := "ref.go:190", after := #[⟨18, .data⟩, ⟨11, .guard⟩], guard := some (11, false) } : Go.Oper)) rfl (fun K hK => ?one146) ?more146
                  case' one146 =>
                    go_simp; rw [Rd.str (P := Try.prog) (x := z.key) (?_ : Rd _ A5 n5 (z.key)) c5 22 5 9 Try.underlying22 Try.underlying5 Try.underlying9]; rotate_left; exact (HRZ.out.ext (by with_reducible (repeat (first | exact Ext.rfl_ _ | assumption | refine Ext.drew ?_ | refine Ext.drewN ?_ _ | refine Ext.alloc ?_ _ | refine Ext.trans ?_ (by assumption))))); simp only [Result.andThen]; go_simp
                    refine hK.out _ _ (by (try dsimp only); exact HS3.out _ (by with_reducible (repeat (first | exact Ext.rfl_ _ | assumption | refine Ext.drew ?_ | refine Ext.drewN ?_ _ | refine Ext.alloc ?_ _ | refine Ext.trans ?_ (by assumption))))) (fun hHeld => ?_)
                    clear hK K
                    (try simp only [Act.put, List.getElem_toArray, List.getElem_cons_zero, List.getElem_cons_succ, List.setIfInBounds_toArray, List.set_cons_zero, List.set_cons_succ])
                    refine wpAnyH_ready (rs := [25]) (by kernel_rfl) (by simp) ?_
                    refine AllReadyH.cons (o := ({ dst := some 62, op := .convert 22 9 (.tmp 61), type := 9, pos := "ref.go:190", after := #[⟨24, .data⟩, ⟨11, .guard⟩], guard := some (11, false) } : Go.Oper)) rfl (fun K hK => ?_) AllReadyH.nil
                    go_simp; rw [Rd.str (P := Try.prog) (x := x.key) (?_ : Rd _ A1 n1 (x.key)) c1' 22 5 9 Try.underlying22 Try.underlying5 Try.underlying9]; rotate_left; exact ((HKEY.out.ext xw).ext (by with_reducible (repeat (first | exact Ext.rfl_ _ | assumption | refine Ext.drew ?_ | refine Ext.drewN ?_ _ | refine Ext.alloc ?_ _ | refine Ext.trans ?_ (by assumption))))); simp only [Result.andThen]; go_simp
                    refine hK.out _ _ (by (try dsimp only); exact HS3.out _ (by with_reducible (repeat (first | exact Ext.rfl_ _ | assumption | refine Ext.drew ?_ | refine Ext.drewN ?_ _ | refine Ext.alloc ?_ _ | refine Ext.trans ?_ (by assumption))))) (fun hHeld => ?_)
                    clear hK K
                    (try simp only [Act.put, List.getElem_toArray, List.getElem_cons_zero, List.getElem_cons_succ, List.setIfInBounds_toArray, List.set_cons_zero, List.set_cons_succ])
                    refine wpAnyH_take (i := 26) (oi := ({ dst := some 63, op := .binOp .neq 9 (.tmp 56) (.tmp 62) 9, type := 4, pos := "ref.go:190", after := #[⟨19, .data⟩, ⟨25, .data⟩, ⟨11, .guard⟩], guard := some (11, false) } : Go.Oper)) (v := ?v147) rfl (by kernel_rfl) (by kernel_rfl) (by kernel_rfl) (fun _ _ _ h => h) (Or.inl ⟨by rfl, ?hy147⟩) (by assumption) ?rest147
                    case hy147 => (intro w hSw; (try dsimp only at hSw); go_simp; (try with_reducible rfl))
                    (try simp only [Act.put, List.getElem_toArray, List.getElem_cons_zero, List.getElem_cons_succ, List.setIfInBounds_toArray, List.set_cons_zero, List.set_cons_succ])
                    refine wpAnyH_take (i := 27) (oi := ({ dst := some 64, op := .pick (.tmp 48) (.const (.bool true)) (.tmp 63), type := 4, pos := "ref.go:190", after := #[⟨11, .data⟩, ⟨26, .data⟩, ⟨7, .guard⟩], guard := some (7, true) } : Go.Oper)) (v := ?v148) rfl (by kernel_rfl) (by kernel_rfl) (by kernel_rfl) (fun _ _ _ h => h) (Or.inl ⟨by rfl, ?hy148⟩) (by assumption) ?rest148
                    case hy148 => (intro w hSw; (try dsimp only at hSw); go_simp; (try with_reducible rfl))
                    (try simp only [Act.put, List.getElem_toArray, List.getElem_cons_zero, List.getElem_cons_succ, List.setIfInBounds_toArray, List.set_cons_zero, List.set_cons_succ])
                    refine wpAnyH_take (i := 28) (oi := ({ dst := some 65, op := .pick (.tmp 44) (.tmp 64) (.const (.bool false)), type := 4, pos := "ref.go:190", after := #[⟨7, .data⟩, ⟨27, .data⟩], guard := none } : Go.Oper)) (v := ?v149) rfl (by kernel_rfl) (by kernel_rfl) (by kernel_rfl) (fun _ _ _ h => h) (Or.inl ⟨by rfl, ?hy149⟩) (by assumption) ?rest149
                    case hy149 => (intro w hSw; (try dsimp only at hSw); go_simp; (try with_reducible rfl))
                    (try simp only [Act.put, List.getElem_toArray, List.getElem_cons_zero, List.getElem_cons_succ, List.setIfInBounds_toArray, List.set_cons_zero, List.set_cons_succ])
                    refine wpAnyH_done (by kernel_rfl) ?_ _
                  case' more146 =>
                    refine AllReadyH.cons (o := ({ dst := some 62, op := .convert 22 9 (.tmp 61), type := 9, pos := "ref.go:190", after := #[⟨24, .data⟩, ⟨11, .guard⟩], guard := some (11, false) } : Go.Oper)) rfl (fun K hK => ?_) AllReadyH.nil
                    go_simp; rw [Rd.str (P := Try.prog) (x := x.key) (?_ : Rd _ A1 n1 (x.key)) c1' 22 5 9 Try.underlying22 Try.underlying5 Try.underlying9]; rotate_left; exact ((HKEY.out.ext xw).ext (by with_reducible (repeat (first | exact Ext.rfl_ _ | assumption | refine Ext.drew ?_ | refine Ext.drewN ?_ _ | refine Ext.alloc ?_ _ | refine Ext.trans ?_ (by assumption))))); simp only [Result.andThen]; go_simp
                    refine hK.out _ _ (by (try dsimp only); exact HS3.out _ (by with_reducible (repeat (first | exact Ext.rfl_ _ | assumption | refine Ext.drew ?_ | refine Ext.drewN ?_ _ | refine Ext.alloc ?_ _ | refine Ext.trans ?_ (by assumption))))) (fun hHeld => ?_)
                    clear hK K
                    (try simp only [Act.put, List.getElem_toArray, List.getElem_cons_zero, List.getElem_cons_succ, List.setIfInBounds_toArray, List.set_cons_zero, List.set_cons_succ])
                    refine wpAnyH_ready (rs := [19]) (by kernel_rfl) (by simp) ?_
                    refine AllReadyH.cons (o := ({ dst := some 56, op := .convert 22 9 (.tmp 55), type := 9, pos := "ref.go:190", after := #[⟨18, .data⟩, ⟨11, .guard⟩], guard := some (11, false) } : Go.Oper)) rfl (fun K hK => ?_) AllReadyH.nil
                    go_simp; rw [Rd.str (P := Try.prog) (x := z.key) (?_ : Rd _ A5 n5 (z.key)) c5 22 5 9 Try.underlying22 Try.underlying5 Try.underlying9]; rotate_left; exact (HRZ.out.ext (by with_reducible (repeat (first | exact Ext.rfl_ _ | assumption | refine Ext.drew ?_ | refine Ext.drewN ?_ _ | refine Ext.alloc ?_ _ | refine Ext.trans ?_ (by assumption))))); simp only [Result.andThen]; go_simp
                    refine hK.out _ _ (by (try dsimp only); exact HS3.out _ (by with_reducible (repeat (first | exact Ext.rfl_ _ | assumption | refine Ext.drew ?_ | refine Ext.drewN ?_ _ | refine Ext.alloc ?_ _ | refine Ext.trans ?_ (by assumption))))) (fun hHeld => ?_)
                    clear hK K
                    (try simp only [Act.put, List.getElem_toArray, List.getElem_cons_zero, List.getElem_cons_succ, List.setIfInBounds_toArray, List.set_cons_zero, List.set_cons_succ])
                    refine wpAnyH_take (i := 26) (oi := ({ dst := some 63, op := .binOp .neq 9 (.tmp 56) (.tmp 62) 9, type := 4, pos := "ref.go:190", after := #[⟨19, .data⟩, ⟨25, .data⟩, ⟨11, .guard⟩], guard := some (11, false) } : Go.Oper)) (v := ?v150) rfl (by kernel_rfl) (by kernel_rfl) (by kernel_rfl) (fun _ _ _ h => h) (Or.inl ⟨by rfl, ?hy150⟩) (by assumption) ?rest150
                    case hy150 => (intro w hSw; (try dsimp only at hSw); go_simp; (try with_reducible rfl))
                    (try simp only [Act.put, List.getElem_toArray, List.getElem_cons_zero, List.getElem_cons_succ, List.setIfInBounds_toArray, List.set_cons_zero, List.set_cons_succ])
                    refine wpAnyH_take (i := 27) (oi := ({ dst := some 64, op := .pick (.tmp 48) (.const (.bool true)) (.tmp 63), type := 4, pos := "ref.go:190", after := #[⟨11, .data⟩, ⟨26, .data⟩, ⟨7, .guard⟩], guard := some (7, true) } : Go.Oper)) (v := ?v151) rfl (by kernel_rfl) (by kernel_rfl) (by kernel_rfl) (fun _ _ _ h => h) (Or.inl ⟨by rfl, ?hy151⟩) (by assumption) ?rest151
                    case hy151 => (intro w hSw; (try dsimp only at hSw); go_simp; (try with_reducible rfl))
                    (try simp only [Act.put, List.getElem_toArray, List.getElem_cons_zero, List.getElem_cons_succ, List.setIfInBounds_toArray, List.set_cons_zero, List.set_cons_succ])
                    refine wpAnyH_take (i := 28) (oi := ({ dst := some 65, op := .pick (.tmp 44) (.tmp 64) (.const (.bool false)), type := 4, pos := "ref.go:190", after := #[⟨7, .data⟩, ⟨27, .data⟩], guard := none } : Go.Oper)) (v := ?v152) rfl (by kernel_rfl) (by kernel_rfl) (by kernel_rfl) (fun _ _ _ h => h) (Or.inl ⟨by rfl, ?hy152⟩) (by assumption) ?rest152
                    case hy152 => (intro w hSw; (try dsimp only at hSw); go_simp; (try with_reducible rfl))
                    (try simp only [Act.put, List.getElem_toArray, List.getElem_cons_zero, List.getElem_cons_succ, List.setIfInBounds_toArray, List.set_cons_zero, List.set_cons_succ])
                    refine wpAnyH_done (by kernel_rfl) ?_ _
                  all_goals
                    go_wp2_with (at_builtin; refine wp_appL rfl _ _ rfl w.heap.size _ _ rfl (OwnL.ext HO2.out (by with_reducible (repeat (first | exact Ext.rfl_ _ | assumption | refine Ext.drew ?_ | refine Ext.drewN ?_ _ | refine Ext.alloc ?_ _ | refine Ext.trans ?_ (by assumption))))) (some ⟨_, 0, none⟩) 1 1 [x] rfl (RdLa.one (h := ⟨A1, n1, c1', A2, n2, c2'⟩) (x := x) _ (Elt.ext HEL.out (by with_reducible (repeat (first | exact Ext.rfl_ _ | assumption | refine Ext.drew ?_ | refine Ext.drewN ?_ _ | refine Ext.alloc ?_ _ | refine Ext.trans ?_ (by assumption)))))) (by have := HLEN.out; unfold B41; simp only [List.length_cons, List.length_nil]; omega) (Ext.size (by with_reducible (repeat (first | exact Ext.rfl_ _ | assumption | refine Ext.drew ?_ | refine Ext.drewN ?_ _ | refine Ext.alloc ?_ _ | refine Ext.trans ?_ (by assumption))))) ?_; intro v5 w5 o5 g5 _; have x5 : Ext w w5 := Ext.growL (show Ext w _ from (by with_reducible (repeat (first | exact Ext.rfl_ _ | assumption | refine Ext.drew ?_ | refine Ext.drewN ?_ _ | refine Ext.alloc ?_ _ | refine Ext.trans ?_ (by assumption))))) g5 (OwnL.ext HO2.out (by with_reducible (repeat (first | exact Ext.rfl_ _ | assumption | refine Ext.drew ?_ | refine Ext.drewN ?_ _ | refine Ext.alloc ?_ _ | refine Ext.trans ?_ (by assumption))))) (Nat.le_refl _); clear g5)
                    go_roundw
                    case rel =>
                      refine ⟨k + 1, by go_num, by omega, Lib.hid (ris_go HKE.out h1.out (by rw [HXE.out]; exact HGO.out)), Lib.hid ?_, x5⟩
                      rw [List.take_succ_eq_append_getElem HKE.out, HXE.out, HTK.out.1]; exact o5
                    case measure => simp [intOf]; omega
            · have t1' : decide (x.seq ≤ s) = false := decide_eq_false t1
              have hsk := latL_skip (s := s) (p := []) (pre := xs.take k) (x := x) (.inl (by omega))
              have HSK := Lib.hid hsk
              clear hsk
              go_wp2
              refine wp_region_held_drew (S := (fun W => W.cell? ⟨b, o + k * 4, none⟩ = some (.slice A1 n1 c1') ∧ W.cell? ⟨b, o + k * 4 + 1, none⟩ = some (.int .i64 x.seq) ∧ W.cell? ⟨b, o + k * 4 + 2, none⟩ = some (.int .i64 x.kind) ∧ W.cell? ⟨b, o + k * 4 + 3, none⟩ = some (.slice A2 n2 c2'))) (by kernel_rfl) (by (try dsimp only); exact HS.out _ (by with_reducible (repeat (first | exact Ext.rfl_ _ | assumption | refine Ext.drew ?_ | refine Ext.drewN ?_ _ | refine Ext.alloc ?_ _ | refine Ext.trans ?_ (by assumption))))) (fun hHeld => ?_)
              refine wpAnyH_take (i := 0) (oi := ({ dst := some 37, op := .move (.tmp 0), type := 42, pos := "ref.go:190", after := #[], guard := none } : Go.Oper)) (v := ?v153) rfl (by kernel_rfl) (by kernel_rfl) (by kernel_rfl) (fun _ _ _ h => h) (Or.inl ⟨by rfl, ?hy153⟩) (by assumption) ?rest153
              case hy153 => (intro w hSw; (try dsimp only at hSw); go_simp; (try with_reducible rfl))
              (try simp only [Act.put, List.getElem_toArray, List.getElem_cons_zero, List.getElem_cons_succ, List.setIfInBounds_toArray, List.set_cons_zero, List.set_cons_succ])
              refine wpAnyH_take (i := 1) (oi := ({ dst := some 38, op := .move (.tmp 6), type := 3, pos := "ref.go:190", after := #[], guard := none } : Go.Oper)) (v := ?v154) rfl (by kernel_rfl) (by kernel_rfl) (by kernel_rfl) (fun _ _ _ h => h) (Or.inl ⟨by rfl, ?hy154⟩) (by assumption) ?rest154
              case hy154 => (intro w hSw; (try dsimp only at hSw); go_simp; (try with_reducible rfl))
              (try simp only [Act.put, List.getElem_toArray, List.getElem_cons_zero, List.getElem_cons_succ, List.setIfInBounds_toArray, List.set_cons_zero, List.set_cons_succ])
              refine wpAnyH_take (i := 2) (oi := ({ dst := some 39, op := .indexAddr 42 (.tmp 37) (.tmp 38), type := 0, pos := "ref.go:190", after := #[⟨0, .data⟩, ⟨1, .data⟩], guard := none } : Go.Oper)) (v := ?v155) rfl (by kernel_rfl) (by kernel_rfl) (by kernel_rfl) (fun _ _ _ h => h) (Or.inl ⟨by rfl, ?hy155⟩) (by assumption) ?rest155
              case hy155 => (intro w hSw; (try dsimp only at hSw); go_simp; (try with_reducible rfl))
              (try simp only [Act.put, List.getElem_toArray, List.getElem_cons_zero, List.getElem_cons_succ, List.setIfInBounds_toArray, List.set_cons_zero, List.set_cons_succ])
              refine wpAnyH_take (i := 3) (oi := ({ dst := some 40, op := .fieldAddr 25 (.tmp 39) 1, type := 0, pos := "ref.go:190", after := #[⟨2, .data⟩], guard := none } : Go.Oper)) (v := ?v156) rfl (by kernel_rfl) (by kernel_rfl) (by kernel_rfl) (fun _ _ _ h => h) (Or.inl ⟨by rfl, ?hy156⟩) (by assumption) ?rest156
              case hy156 => (intro w hSw; (try dsimp only at hSw); go_simp; (try with_reducible rfl))
              (try simp only [Act.put, List.getElem_toArray, List.getElem_cons_zero, List.getElem_cons_succ, List.setIfInBounds_toArray, List.set_cons_zero, List.set_cons_succ])
              refine wpAnyH_take (i := 4) (oi := ({ dst := some 41, op := .load 2 (.tmp 40), type := 2, pos := "ref.go:190", after := #[⟨3, .data⟩], guard := none } : Go.Oper)) (v := ?v157) rfl (by kernel_rfl) (by kernel_rfl) (by kernel_rfl) (fun _ _ _ h => h) (Or.inl ⟨by rfl, ?hy157⟩) (by assumption) ?rest157
              case hy157 => (intro w hSw; (try dsimp only at hSw); go_simp; (try with_reducible rfl))
              (try simp only [Act.put, List.getElem_toArray, List.getElem_cons_zero, List.getElem_cons_succ, List.setIfInBounds_toArray, List.set_cons_zero, List.set_cons_succ])
              refine wpAnyH_take (i := 5) (oi := ({ dst := some 42, op := .move (.tmp 1), type := 2, pos := "ref.go:190", after := #[], guard := none } : Go.Oper)) (v := ?v158) rfl (by kernel_rfl) (by kernel_rfl) (by kernel_rfl) (fun _ _ _ h => h) (Or.inl ⟨by rfl, ?hy158⟩) (by assumption) ?rest158
              case hy158 => (intro w hSw; (try dsimp only at hSw); go_simp; (try with_reducible rfl))
              (try simp only [Act.put, List.getElem_toArray, List.getElem_cons_zero, List.getElem_cons_succ, List.setIfInBounds_toArray, List.set_cons_zero, List.set_cons_succ])
              refine wpAnyH_take (i := 6) (oi := ({ dst := some 43, op := .binOp .leq 2 (.tmp 41) (.tmp 42) 2, type := 4, pos := "ref.go:190", after := #[⟨4, .data⟩, ⟨5, .data⟩], guard := none } : Go.Oper)) (v := ?v159) rfl (by kernel_rfl) (by kernel_rfl) (by kernel_rfl) (fun _ _ _ h => h) (Or.inl ⟨by rfl, ?hy159⟩) (by assumption) ?rest159
              case hy159 => (intro w hSw; (try dsimp only at hSw); go_simp; (try with_reducible rfl))
              (try simp only [Act.put, List.getElem_toArray, List.getElem_cons_zero, List.getElem_cons_succ, List.setIfInBounds_toArray, List.set_cons_zero, List.set_cons_succ])
              refine wpAnyH_take (i := 7) (oi := ({ dst := some 44, op := .move (.tmp 43), type := 4, pos := "ref.go:190", after := #[⟨6, .data⟩], guard := none } : Go.Oper)) (v := ?v160) rfl (by kernel_rfl) (by kernel_rfl) (by kernel_rfl) (fun _ _ _ h => h) (Or.inl ⟨by rfl, ?hy160⟩) (by assumption) ?rest160
              case hy160 => (intro w hSw; (try dsimp only at hSw); go_simp; (try with_reducible rfl))
              (try simp only [Act.put, List.getElem_toArray, List.getElem_cons_zero, List.getElem_cons_succ, List.setIfInBounds_toArray, List.set_cons_zero, List.set_cons_succ])
              refine wpAnyH_take (i := 8) (oi := ({ dst := some 45, op := .move (.tmp 5), type := 42, pos := "ref.go:190", after := #[⟨7, .guard⟩], guard := some (7, true) } : Go.Oper)) (v := undef) rfl (by kernel_rfl) (by kernel_rfl) (by kernel_rfl) (fun _ _ _ h => h) (Or.inr ⟨by rfl, rfl⟩) (by assumption) ?_
              (try simp only [Act.put, List.getElem_toArray, List.getElem_cons_zero, List.getElem_cons_succ, List.setIfInBounds_toArray, List.set_cons_zero, List.set_cons_succ])
              refine wpAnyH_take (i := 9) (oi := ({ dst := some 46, op := .call { callee := .builtin .len, args := #[.tmp 45], argTypes := #[42] }, type := 3, pos := "ref.go:190", after := #[⟨8, .data⟩, ⟨7, .guard⟩], guard := some (7, true) } : Go.Oper)) (v := undef) rfl (by kernel_rfl) (by kernel_rfl) (by kernel_rfl) (fun _ _ _ h => h) (Or.inr ⟨by rfl, rfl⟩) (by assumption) ?_
              (try simp only [Act.put, List.getElem_toArray, List.getElem_cons_zero, List.getElem_cons_succ, List.setIfInBounds_toArray, List.set_cons_zero, List.set_cons_succ])
              refine wpAnyH_take (i := 10) (oi := ({ dst := some 47, op := .binOp .eql 3 (.tmp 46) (.const (.int .i64 0)) 3, type := 4, pos := "ref.go:190", after := #[⟨9, .data⟩, ⟨7, .guard⟩], guard := some (7, true) } : Go.Oper)) (v := undef) rfl (by kernel_rfl) (by kernel_rfl) (by kernel_rfl) (fun _ _ _ h => h) (Or.inr ⟨by rfl, rfl⟩) (by assumption) ?_
              (try simp only [Act.put, List.getElem_toArray, List.getElem_cons_zero, List.getElem_cons_succ, List.setIfInBounds_toArray, List.set_cons_zero, List.set_cons_succ])
              refine wpAnyH_take (i := 11) (oi := ({ dst := some 48, op := .move (.tmp 47), type := 4, pos := "ref.go:190", after := #[⟨10, .data⟩, ⟨7, .chain⟩, ⟨7, .guard⟩], guard := some (7, true) } : Go.Oper)) (v := undef) rfl (by kernel_rfl) (by kernel_rfl) (by kernel_rfl) (fun _ _ _ h => h) (Or.inr ⟨by rfl, rfl⟩) (by assumption) ?_
              (try simp only [Act.put, List.getElem_toArray, List.getElem_cons_zero, List.getElem_cons_succ, List.setIfInBounds_toArray, List.set_cons_zero, List.set_cons_succ])
              refine wpAnyH_take (i := 12) (oi := ({ dst := some 49, op := .move (.tmp 5), type := 42, pos := "ref.go:190", after := #[⟨11, .guard⟩], guard := some (11, false) } : Go.Oper)) (v := undef) rfl (by kernel_rfl) (by kernel_rfl) (by kernel_rfl) (fun _ _ _ h => h) (Or.inr ⟨by rfl, rfl⟩) (by assumption) ?_
              (try simp only [Act.put, List.getElem_toArray, List.getElem_cons_zero, List.getElem_cons_succ, List.setIfInBounds_toArray, List.set_cons_zero, List.set_cons_succ])
              refine wpAnyH_take (i := 13) (oi := ({ dst := some 50, op := .move (.tmp 5), type := 42, pos := "ref.go:190", after := #[⟨11, .guard⟩], guard := some (11, false) } : Go.Oper)) (v := undef) rfl (by kernel_rfl) (by kernel_rfl) (by kernel_rfl) (fun _ _ _ h => h) (Or.inr ⟨by rfl, rfl⟩) (by assumption) ?_
              (try simp only [Act.put, List.getElem_toArray, List.getElem_cons_zero, List.getElem_cons_succ, List.setIfInBounds_toArray, List.set_cons_zero, List.set_cons_succ])
              refine wpAnyH_take (i := 14) (oi := ({ dst := some 51, op := .call { callee := .builtin .len, args := #[.tmp 50], argTypes := #[42] }, type := 3, pos := "ref.go:190", after := #[⟨13, .data⟩, ⟨11, .guard⟩], guard := some (11, false) } : Go.Oper)) (v := undef) rfl (by kernel_rfl) (by kernel_rfl) (by kernel_rfl) (fun _ _ _ h => h) (Or.inr ⟨by rfl, rfl⟩) (by assumption) ?_
              (try simp only [Act.put, List.getElem_toArray, List.getElem_cons_zero, List.getElem_cons_succ, List.setIfInBounds_toArray, List.set_cons_zero, List.set_cons_succ])
              refine wpAnyH_take (i := 15) (oi := ({ dst := some 52, op := .binOp .sub 3 (.tmp 51) (.const (.int .i64 1)) 3, type := 3, pos := "ref.go:190", after := #[⟨14, .data⟩, ⟨11, .guard⟩], guard := some (11, false) } : Go.Oper)) (v := undef) rfl (by kernel_rfl) (by kernel_rfl) (by kernel_rfl) (fun _ _ _ h => h) (Or.inr ⟨by rfl, rfl⟩) (by assumption) ?_
              (try simp only [Act.put, List.getElem_toArray, List.getElem_cons_zero, List.getElem_cons_succ, List.setIfInBounds_toArray, List.set_cons_zero, List.set_cons_succ])
              refine wpAnyH_take (i := 16) (oi := ({ dst := some 53, op := .indexAddr 42 (.tmp 49) (.tmp 52), type := 0, pos := "ref.go:190", after := #[⟨12, .data⟩, ⟨15, .data⟩, ⟨11, .guard⟩], guard := some (11, false) } : Go.Oper)) (v := undef) rfl (by kernel_rfl) (by kernel_rfl) (by kernel_rfl) (fun _ _ _ h => h) (Or.inr ⟨by rfl, rfl⟩) (by assumption) ?_
              (try simp only [Act.put, List.getElem_toArray, List.getElem_cons_zero, List.getElem_cons_succ, List.setIfInBounds_toArray, List.set_cons_zero, List.set_cons_succ])
              refine wpAnyH_take (i := 17) (oi := ({ dst := some 54, op := .fieldAddr 25 (.tmp 53) 0, type := 0, pos := "ref.go:190", after := #[⟨16, .data⟩, ⟨11, .guard⟩], guard := some (11, false) } : Go.Oper)) (v := undef) rfl (by kernel_rfl) (by kernel_rfl) (by kernel_rfl) (fun _ _ _ h => h) (Or.inr ⟨by rfl, rfl⟩) (by assumption) ?_
              (try simp only [Act.put, List.getElem_toArray, List.getElem_cons_zero, List.getElem_cons_succ, List.setIfInBounds_toArray, List.set_cons_zero, List.set_cons_succ])
              refine wpAnyH_take (i := 18) (oi := ({ dst := some 55, op := .load 22 (.tmp 54), type := 22, pos := "ref.go:190", after := #[⟨17, .data⟩, ⟨11, .guard⟩], guard := some (11, false) } : Go.Oper)) (v := undef) rfl (by kernel_rfl) (by kernel_rfl) (by kernel_rfl) (fun _ _ _ h => h) (Or.inr ⟨by rfl, rfl⟩) (by assumption) ?_
              (try simp only [Act.put, List.getElem_toArray, List.getElem_cons_zero, List.getElem_cons_succ, List.setIfInBounds_toArray, List.set_cons_zero, List.set_cons_succ])
              refine wpAnyH_take (i := 19) (oi := ({ dst := some 56, op := .convert 22 9 (.tmp 55), type := 9, pos := "ref.go:190", after := #[⟨18, .data⟩, ⟨11, .guard⟩], guard := some (11, false) } : Go.Oper)) (v := undef) rfl (by kernel_rfl) (by kernel_rfl) (by kernel_rfl) (fun _ _ _ h => h) (Or.inr ⟨by rfl, rfl⟩) (by assumption) ?_
              (try simp only [Act.put, List.getElem_toArray, List.getElem_cons_zero, List.getElem_cons_succ, List.setIfInBounds_toArray, List.set_cons_zero, List.set_cons_succ])
              refine wpAnyH_take (i := 20) (oi := ({ dst := some 57, op := .move (.tmp 0), type := 42, pos := "ref.go:190", after := #[⟨11, .guard⟩], guard := some (11, false) } : Go.Oper)) (v := undef) rfl (by kernel_rfl) (by kernel_rfl) (by kernel_rfl) (fun _ _ _ h => h) (Or.inr ⟨by rfl, rfl⟩) (by assumption) ?_
              (try simp only [Act.put, List.getElem_toArray, List.getElem_cons_zero, List.getElem_cons_succ, List.setIfInBounds_toArray, List.set_cons_zero, List.set_cons_succ])
              refine wpAnyH_take (i := 21) (oi := ({ dst := some 58, op := .move (.tmp 6), type := 3, pos := "ref.go:190", after := #[⟨11, .guard⟩], guard := some (11, false) } : Go.Oper)) (v := undef) rfl (by kernel_rfl) (by kernel_rfl) (by kernel_rfl) (fun _ _ _ h => h) (Or.inr ⟨by rfl, rfl⟩) (by assumption) ?_
              (try simp only [Act.put, List.getElem_toArray, List.getElem_cons_zero, List.getElem_cons_succ, List.setIfInBounds_toArray, List.set_cons_zero, List.set_cons_succ])
              refine wpAnyH_take (i := 22) (oi := ({ dst := some 59, op := .indexAddr 42 (.tmp 57) (.tmp 58), type := 0, pos := "ref.go:190", after := #[⟨20, .data⟩, ⟨21, .data⟩, ⟨11, .guard⟩], guard := some (11, false) } : Go.Oper)) (v := undef) rfl (by kernel_rfl) (by kernel_rfl) (by kernel_rfl) (fun _ _ _ h => h) (Or.inr ⟨by rfl, rfl⟩) (by assumption) ?_
              (try simp only [Act.put, List.getElem_toArray, List.getElem_cons_zero, List.getElem_cons_succ, List.setIfInBounds_toArray, List.set_cons_zero, List.set_cons_succ])
              refine wpAnyH_take (i := 23) (oi := ({ dst := some 60, op := .fieldAddr 25 (.tmp 59) 0, type := 0, pos := "ref.go:190", after := #[⟨22, .data⟩, ⟨11, .guard⟩], guard := some (11, false) } : Go.Oper)) (v := undef) rfl (by kernel_rfl) (by kernel_rfl) (by kernel_rfl) (fun _ _ _ h => h) (Or.inr ⟨by rfl, rfl⟩) (by assumption) ?_
              (try simp only [Act.put, List.getElem_toArray, List.getElem_cons_zero, List.getElem_cons_succ, List.setIfInBounds_toArray, List.set_cons_zero, List.set_cons_succ])
              refine wpAnyH_take (i := 24) (oi := ({ dst := some 61, op := .load 22 (.tmp 60), type := 22, pos := "ref.go:190", after := #[⟨23, .data⟩, ⟨11, .guard⟩], guard := some (11, false) } : Go.Oper)) (v := undef) rfl (by kernel_rfl) (by kernel_rfl) (by kernel_rfl) (fun _ _ _ h => h) (Or.inr ⟨by rfl, rfl⟩) (by assumption) ?_
              (try simp only [Act.put, List.getElem_toArray, List.getElem_cons_zero, List.getElem_cons_succ, List.setIfInBounds_toArray, List.set_cons_zero, List.set_cons_succ])
              refine wpAnyH_take (i := 25) (oi := ({ dst := some 62, op := .convert 22 9 (.tmp 61), type := 9, pos := "ref.go:190", after := #[⟨24, .data⟩, ⟨11, .guard⟩], guard := some (11, false) } : Go.Oper)) (v := undef) rfl (by kernel_rfl) (by kernel_rfl) (by kernel_rfl) (fun _ _ _ h => h) (Or.inr ⟨by rfl, rfl⟩) (by assumption) ?_
              (try simp only [Act.put, List.getElem_toArray, List.getElem_cons_zero, List.getElem_cons_succ, List.setIfInBounds_toArray, List.set_cons_zero, List.set_cons_succ])
              refine wpAnyH_take (i := 26) (oi := ({ dst := some 63, op := .binOp .neq 9 (.tmp 56) (.tmp 62) 9, type := 4, pos := "ref.go:190", after := #[⟨19, .data⟩, ⟨25, .data⟩, ⟨11, .guard⟩], guard := some (11, false) } : Go.Oper)) (v := undef) rfl (by kernel_rfl) (by kernel_rfl) (by kernel_rfl) (fun _ _ _ h => h) (Or.inr ⟨by rfl, rfl⟩) (by assumption) ?_
              (try simp only [Act.put, List.getElem_toArray, List.getElem_cons_zero, List.getElem_cons_succ, List.setIfInBounds_toArray, List.set_cons_zero, List.set_cons_succ])
              refine wpAnyH_take (i := 27) (oi := ({ dst := some 64, op := .pick (.tmp 48) (.const (.bool true)) (.tmp 63), type := 4, pos := "ref.go:190", after := #[⟨11, .data⟩, ⟨26, .data⟩, ⟨7, .guard⟩], guard := some (7, true) } : Go.Oper)) (v := undef) rfl (by kernel_rfl) (by kernel_rfl) (by kernel_rfl) (fun _ _ _ h => h) (Or.inr ⟨by rfl, rfl⟩) (by assumption) ?_
              (try simp only [Act.put, List.getElem_toArray, List.getElem_cons_zero, List.getElem_cons_succ, List.setIfInBounds_toArray, List.set_cons_zero, List.set_cons_succ])
              refine wpAnyH_take (i := 28) (oi := ({ dst := some 65, op := .pick (.tmp 44) (.tmp 64) (.const (.bool false)), type := 4, pos := "ref.go:190", after := #[⟨7, .data⟩, ⟨27, .data⟩], guard := none } : Go.Oper)) (v := ?v161) rfl (by kernel_rfl) (by kernel_rfl) (by kernel_rfl) (fun _ _ _ h => h) (Or.inl ⟨by rfl, ?hy161⟩) (by assumption) ?rest161
              case hy161 => (intro w hSw; (try dsimp only at hSw); go_simp; (try with_reducible rfl))
              (try simp only [Act.put, List.getElem_toArray, List.getElem_cons_zero, List.getElem_cons_succ, List.setIfInBounds_toArray, List.set_cons_zero, List.set_cons_succ])
              refine wpAnyH_done (by kernel_rfl) ?_ _
              go_wp2
              go_roundw
              case rel =>
                refine ⟨k + 1, by go_num, by omega, Lib.hid (ris_go HKE.out h1.out (by rw [HXE.out]; exact HGO.out)), Lib.hid ?_, (by with_reducible (repeat (first | exact Ext.rfl_ _ | assumption | refine Ext.drew ?_ | refine Ext.drewN ?_ _ | refine Ext.alloc ?_ _ | refine Ext.trans ?_ (by assumption))))⟩
                rw [List.take_succ_eq_append_getElem HKE.out, HXE.out, HSK.out.1]; exact HO2.out.ext (by with_reducible (repeat (first | exact Ext.rfl_ _ | assumption | refine Ext.drew ?_ | refine Ext.drewN ?_ _ | refine Ext.alloc ?_ _ | refine Ext.trans ?_ (by assumption))))
              case measure => simp [intOf]; omega
      · have hm' : mayE x = false := by simpa using hm
        have HM := Lib.hid hm'
        have hbe : ¬ behO (xs.take k).getLast? x = true := by simp [behO, hm']
        have HBE := Lib.hid hbe
        clear hm hm' hbe
        have hrr : ris none xs = xs.take k := ris_end HKE.out h1.out (by rw [HXE.out]; exact HBE.out)
        have HRR := Lib.hid hrr
        clear hrr
        go_wp2
        refine wp_region_held_drew (S := (fun W => W.cell? ⟨b, o + k * 4, none⟩ = some (.slice A1 n1 c1') ∧ W.cell? ⟨b, o + k * 4 + 1, none⟩ = some (.int .i64 x.seq) ∧ W.cell? ⟨b, o + k * 4 + 2, none⟩ = some (.int .i64 x.kind) ∧ W.cell? ⟨b, o + k * 4 + 3, none⟩ = some (.slice A2 n2 c2'))) (by kernel_rfl) (by (try dsimp only); exact HS.out _ (by with_reducible (repeat (first | exact Ext.rfl_ _ | assumption | refine Ext.drew ?_ | refine Ext.drewN ?_ _ | refine Ext.alloc ?_ _ | refine Ext.trans ?_ (by assumption))))) (fun hHeld => ?_)
        refine wpAnyH_take (i := 0) (oi := ({ dst := some 13, op := .move (.tmp 0), type := 42, pos := "ref.go:187", after := #[], guard := none } : Go.Oper)) (v := ?v162) rfl (by kernel_rfl) (by kernel_rfl) (by kernel_rfl) (fun _ _ _ h => h) (Or.inl ⟨by rfl, ?hy162⟩) (by assumption) ?rest162
        case hy162 => (intro w hSw; (try dsimp only at hSw); go_simp; (try with_reducible rfl))
        (try simp only [Act.put, List.getElem_toArray, List.getElem_cons_zero, List.getElem_cons_succ, List.setIfInBounds_toArray, List.set_cons_zero, List.set_cons_succ])
        refine wpAnyH_take (i := 1) (oi := ({ dst := some 14, op := .move (.tmp 6), type := 3, pos := "ref.go:187", after := #[], guard := none } : Go.Oper)) (v := ?v163) rfl (by kernel_rfl) (by kernel_rfl) (by kernel_rfl) (fun _ _ _ h => h) (Or.inl ⟨by rfl, ?hy163⟩) (by assumption) ?rest163
        case hy163 => (intro w hSw; (try dsimp only at hSw); go_simp; (try with_reducible rfl))
        (try simp only [Act.put, List.getElem_toArray, List.getElem_cons_zero, List.getElem_cons_succ, List.setIfInBounds_toArray, List.set_cons_zero, List.set_cons_succ])
        refine wpAnyH_take (i := 2) (oi := ({ dst := some 15, op := .indexAddr 42 (.tmp 13) (.tmp 14), type := 0, pos := "ref.go:187", after := #[⟨0, .data⟩, ⟨1, .data⟩], guard := none } : Go.Oper)) (v := ?v164) rfl (by kernel_rfl) (by kernel_rfl) (by kernel_rfl) (fun _ _ _ h => h) (Or.inl ⟨by rfl, ?hy164⟩) (by assumption) ?rest164
        case hy164 => (intro w hSw; (try dsimp only at hSw); go_simp; (try with_reducible rfl))
        (try simp only [Act.put, List.getElem_toArray, List.getElem_cons_zero, List.getElem_cons_succ, List.setIfInBounds_toArray, List.set_cons_zero, List.set_cons_succ])
        refine wpAnyH_take (i := 3) (oi := ({ dst := some 16, op := .load 25 (.tmp 15), type := 25, pos := "ref.go:187", after := #[⟨2, .data⟩], guard := none } : Go.Oper)) (v := ?v165) rfl (by kernel_rfl) (by kernel_rfl) (by kernel_rfl) (fun _ _ _ h => h) (Or.inl ⟨by rfl, ?hy165⟩) (by assumption) ?rest165
        case hy165 => (intro w hSw; (try dsimp only at hSw); go_simp; (try with_reducible rfl))
        (try simp only [Act.put, List.getElem_toArray, List.getElem_cons_zero, List.getElem_cons_succ, List.setIfInBounds_toArray, List.set_cons_zero, List.set_cons_succ])
        refine wpAnyH_ready (rs := [4]) (by kernel_rfl) (by simp) ?_
        refine AllReadyH.cons (o := ({ dst := some 17, op := .call { callee := .value (.func 18), args := #[.tmp 16], argTypes := #[25] }, type := 4, pos := "ref.go:187", after := #[⟨3, .data⟩], guard := none } : Go.Oper)) rfl (fun K hK => ?_) AllReadyH.nil
        go_simp
        (go_at_call 18; refine (rmay_any _ x _ (HR.out.ext (by with_reducible (repeat (first | exact Ext.rfl_ _ | assumption | refine Ext.drew ?_ | refine Ext.drewN ?_ _ | refine Ext.alloc ?_ _ | refine Ext.trans ?_ (by assumption)))))).mono ?_; rintro e w1 ⟨rfl, hw1⟩; rw [HM.out])
        (try (go_wp2_with fail))
        refine hK.out _ _ (by (try dsimp only); exact HS.out _ (by with_reducible (repeat (first | exact Ext.rfl_ _ | assumption | refine Ext.drew ?_ | refine Ext.drewN ?_ _ | refine Ext.alloc ?_ _ | refine Ext.trans ?_ (by assumption))))) (fun hHeld => ?_)
        clear hK K
        (try simp only [Act.put, List.getElem_toArray, List.getElem_cons_zero, List.getElem_cons_succ, List.setIfInBounds_toArray, List.set_cons_zero, List.set_cons_succ])
        refine wpAnyH_take (i := 5) (oi := ({ dst := some 18, op := .unOp .not 4 (.tmp 17), type := 4, pos := "ref.go:187", after := #[⟨4, .data⟩], guard := none } : Go.Oper)) (v := ?v166) rfl (by kernel_rfl) (by kernel_rfl) (by kernel_rfl) (fun _ _ _ h => h) (Or.inl ⟨by rfl, ?hy166⟩) (by assumption) ?rest166
        case hy166 => (intro w hSw; (try dsimp only at hSw); go_simp; (try with_reducible rfl))
        (try simp only [Act.put, List.getElem_toArray, List.getElem_cons_zero, List.getElem_cons_succ, List.setIfInBounds_toArray, List.set_cons_zero, List.set_cons_succ])
        refine wpAnyH_take (i := 6) (oi := ({ dst := some 19, op := .move (.tmp 18), type := 4, pos := "ref.go:187", after := #[⟨5, .data⟩, ⟨4, .chain⟩], guard := none } : Go.Oper)) (v := ?v167) rfl (by kernel_rfl) (by kernel_rfl) (by kernel_rfl) (fun _ _ _ h => h) (Or.inl ⟨by rfl, ?hy167⟩) (by assumption) ?rest167
        case hy167 => (intro w hSw; (try dsimp only at hSw); go_simp; (try with_reducible rfl))
        (try simp only [Act.put, List.getElem_toArray, List.getElem_cons_zero, List.getElem_cons_succ, List.setIfInBounds_toArray, List.set_cons_zero, List.set_cons_succ])
        refine wpAnyH_take (i := 7) (oi := ({ dst := some 20, op := .move (.tmp 6), type := 3, pos := "ref.go:187", after := #[⟨6, .guard⟩], guard := some (6, false) } : Go.Oper)) (v := undef) rfl (by kernel_rfl) (by kernel_rfl) (by kernel_rfl) (fun _ _ _ h => h) (Or.inr ⟨by rfl, rfl⟩) (by assumption) ?_
        (try simp only [Act.put, List.getElem_toArray, List.getElem_cons_zero, List.getElem_cons_succ, List.setIfInBounds_toArray, List.set_cons_zero, List.set_cons_succ])
        refine wpAnyH_take (i := 8) (oi := ({ dst := some 21, op := .binOp .gtr 3 (.tmp 20) (.const (.int .i64 0)) 3, type := 4, pos := "ref.go:187", after := #[⟨7, .data⟩, ⟨6, .guard⟩], guard := some (6, false) } : Go.Oper)) (v := undef) rfl (by kernel_rfl) (by kernel_rfl) (by kernel_rfl) (fun _ _ _ h => h) (Or.inr ⟨by rfl, rfl⟩) (by assumption) ?_
        (try simp only [Act.put, List.getElem_toArray, List.getElem_cons_zero, List.getElem_cons_succ, List.setIfInBounds_toArray, List.set_cons_zero, List.set_cons_succ])
        refine wpAnyH_take (i := 9) (oi := ({ dst := some 22, op := .move (.tmp 21), type := 4, pos := "ref.go:187", after := #[⟨8, .data⟩, ⟨6, .chain⟩, ⟨6, .guard⟩], guard := some (6, false) } : Go.Oper)) (v := undef) rfl (by kernel_rfl) (by kernel_rfl) (by kernel_rfl) (fun _ _ _ h => h) (Or.inr ⟨by rfl, rfl⟩) (by assumption) ?_
        (try simp only [Act.put, List.getElem_toArray, List.getElem_cons_zero, List.getElem_cons_succ, List.setIfInBounds_toArray, List.set_cons_zero, List.set_cons_succ])
        refine wpAnyH_take (i := 10) (oi := ({ dst := some 23, op := .move (.tmp 0), type := 42, pos := "ref.go:187", after := #[⟨9, .guard⟩], guard := some (9, true) } : Go.Oper)) (v := undef) rfl (by kernel_rfl) (by kernel_rfl) (by kernel_rfl) (fun _ _ _ h => h) (Or.inr ⟨by rfl, rfl⟩) (by assumption) ?_
        (try simp only [Act.put, List.getElem_toArray, List.getElem_cons_zero, List.getElem_cons_succ, List.setIfInBounds_toArray, List.set_cons_zero, List.set_cons_succ])
        refine wpAnyH_take (i := 11) (oi := ({ dst := some 24, op := .move (.tmp 6), type := 3, pos := "ref.go:187", after := #[⟨9, .guard⟩], guard := some (9, true) } : Go.Oper)) (v := undef) rfl (by kernel_rfl) (by kernel_rfl) (by kernel_rfl) (fun _ _ _ h => h) (Or.inr ⟨by rfl, rfl⟩) (by assumption) ?_
        (try simp only [Act.put, List.getElem_toArray, List.getElem_cons_zero, List.getElem_cons_succ, List.setIfInBounds_toArray, List.set_cons_zero, List.set_cons_succ])
        refine wpAnyH_take (i := 12) (oi := ({ dst := some 25, op := .binOp .sub 3 (.tmp 24) (.const (.int .i64 1)) 3, type := 3, pos := "ref.go:187", after := #[⟨11, .data⟩, ⟨9, .guard⟩], guard := some (9, true) } : Go.Oper)) (v := undef) rfl (by kernel_rfl) (by kernel_rfl) (by kernel_rfl) (fun _ _ _ h => h) (Or.inr ⟨by rfl, rfl⟩) (by assumption) ?_
        (try simp only [Act.put, List.getElem_toArray, List.getElem_cons_zero, List.getElem_cons_succ, List.setIfInBounds_toArray, List.set_cons_zero, List.set_cons_succ])
        refine wpAnyH_take (i := 13) (oi := ({ dst := some 26, op := .indexAddr 42 (.tmp 23) (.tmp 25), type := 0, pos := "ref.go:187", after := #[⟨10, .data⟩, ⟨12, .data⟩, ⟨9, .guard⟩], guard := some (9, true) } : Go.Oper)) (v := undef) rfl (by kernel_rfl) (by kernel_rfl) (by kernel_rfl) (fun _ _ _ h => h) (Or.inr ⟨by rfl, rfl⟩) (by assumption) ?_
        (try simp only [Act.put, List.getElem_toArray, List.getElem_cons_zero, List.getElem_cons_succ, List.setIfInBounds_toArray, List.set_cons_zero, List.set_cons_succ])
        refine wpAnyH_take (i := 14) (oi := ({ dst := some 27, op := .load 25 (.tmp 26), type := 25, pos := "ref.go:187", after := #[⟨13, .data⟩, ⟨9, .guard⟩], guard := some (9, true) } : Go.Oper)) (v := undef) rfl (by kernel_rfl) (by kernel_rfl) (by kernel_rfl) (fun _ _ _ h => h) (Or.inr ⟨by rfl, rfl⟩) (by assumption) ?_
        (try simp only [Act.put, List.getElem_toArray, List.getElem_cons_zero, List.getElem_cons_succ, List.setIfInBounds_toArray, List.set_cons_zero, List.set_cons_succ])
        refine wpAnyH_take (i := 15) (oi := ({ dst := some 28, op := .move (.tmp 0), type := 42, pos := "ref.go:187", after := #[⟨9, .guard⟩], guard := some (9, true) } : Go.Oper)) (v := undef) rfl (by kernel_rfl) (by kernel_rfl) (by kernel_rfl) (fun _ _ _ h => h) (Or.inr ⟨by rfl, rfl⟩) (by assumption) ?_
        (try simp only [Act.put, List.getElem_toArray, List.getElem_cons_zero, List.getElem_cons_succ, List.setIfInBounds_toArray, List.set_cons_zero, List.set_cons_succ])
        refine wpAnyH_take (i := 16) (oi := ({ dst := some 29, op := .move (.tmp 6), type := 3, pos := "ref.go:187", after := #[⟨9, .guard⟩], guard := some (9, true) } : Go.Oper)) (v := undef) rfl (by kernel_rfl) (by kernel_rfl) (by kernel_rfl) (fun _ _ _ h => h) (Or.inr ⟨by rfl, rfl⟩) (by assumption) ?_
        (try simp only [Act.put, List.getElem_toArray, List.getElem_cons_zero, List.getElem_cons_succ, List.setIfInBounds_toArray, List.set_cons_zero, List.set_cons_succ])
        refine wpAnyH_take (i := 17) (oi := ({ dst := some 30, op := .indexAddr 42 (.tmp 28) (.tmp 29), type := 0, pos := "ref.go:187", after := #[⟨15, .data⟩, ⟨16, .data⟩, ⟨9, .guard⟩], guard := some (9, true) } : Go.Oper)) (v := undef) rfl (by kernel_rfl) (by kernel_rfl) (by kernel_rfl) (fun _ _ _ h => h) (Or.inr ⟨by rfl, rfl⟩) (by assumption) ?_
        (try simp only [Act.put, List.getElem_toArray, List.getElem_cons_zero, List.getElem_cons_succ, List.setIfInBounds_toArray, List.set_cons_zero, List.set_cons_succ])
        refine wpAnyH_take (i := 18) (oi := ({ dst := some 31, op := .load 25 (.tmp 30), type := 25, pos := "ref.go:187", after := #[⟨17, .data⟩, ⟨9, .guard⟩], guard := some (9, true) } : Go.Oper)) (v := undef) rfl (by kernel_rfl) (by kernel_rfl) (by kernel_rfl) (fun _ _ _ h => h) (Or.inr ⟨by rfl, rfl⟩) (by assumption) ?_
        (try simp only [Act.put, List.getElem_toArray, List.getElem_cons_zero, List.getElem_cons_succ, List.setIfInBounds_toArray, List.set_cons_zero, List.set_cons_succ])
        refine wpAnyH_take (i := 19) (oi := ({ dst := some 32, op := .call { callee := .value (.func 27), args := #[.tmp 27, .tmp 31], argTypes := #[25, 25] }, type := 3, pos := "ref.go:187", after := #[⟨14, .data⟩, ⟨18, .data⟩, ⟨9, .chain⟩, ⟨9, .guard⟩], guard := some (9, true) } : Go.Oper)) (v := undef) rfl (by kernel_rfl) (by kernel_rfl) (by kernel_rfl) (fun _ _ _ h => h) (Or.inr ⟨by rfl, rfl⟩) (by assumption) ?_
        (try simp only [Act.put, List.getElem_toArray, List.getElem_cons_zero, List.getElem_cons_succ, List.setIfInBounds_toArray, List.set_cons_zero, List.set_cons_succ])
        refine wpAnyH_take (i := 20) (oi := ({ dst := some 33, op := .binOp .geq 3 (.tmp 32) (.const (.int .i64 0)) 3, type := 4, pos := "ref.go:187", after := #[⟨19, .data⟩, ⟨9, .guard⟩], guard := some (9, true) } : Go.Oper)) (v := undef) rfl (by kernel_rfl) (by kernel_rfl) (by kernel_rfl) (fun _ _ _ h => h) (Or.inr ⟨by rfl, rfl⟩) (by assumption) ?_
        (try simp only [Act.put, List.getElem_toArray, List.getElem_cons_zero, List.getElem_cons_succ, List.setIfInBounds_toArray, List.set_cons_zero, List.set_cons_succ])
        refine wpAnyH_take (i := 21) (oi := ({ dst := some 34, op := .pick (.tmp 22) (.tmp 33) (.const (.bool false)), type := 4, pos := "ref.go:187", after := #[⟨9, .data⟩, ⟨20, .data⟩, ⟨6, .guard⟩], guard := some (6, false) } : Go.Oper)) (v := undef) rfl (by kernel_rfl) (by kernel_rfl) (by kernel_rfl) (fun _ _ _ h => h) (Or.inr ⟨by rfl, rfl⟩) (by assumption) ?_
        (try simp only [Act.put, List.getElem_toArray, List.getElem_cons_zero, List.getElem_cons_succ, List.setIfInBounds_toArray, List.set_cons_zero, List.set_cons_succ])
        refine wpAnyH_take (i := 22) (oi := ({ dst := some 35, op := .pick (.tmp 19) (.const (.bool true)) (.tmp 34), type := 4, pos := "ref.go:187", after := #[⟨6, .data⟩, ⟨21, .data⟩], guard := none } : Go.Oper)) (v := ?v168) rfl (by kernel_rfl) (by kernel_rfl) (by kernel_rfl) (fun _ _ _ h => h) (Or.inl ⟨by rfl, ?hy168⟩) (by assumption) ?rest168
        case hy168 => (intro w hSw; (try dsimp only at hSw); go_simp; (try with_reducible rfl))
        (try simp only [Act.put, List.getElem_toArray, List.getElem_cons_zero, List.getElem_cons_succ, List.setIfInBounds_toArray, List.set_cons_zero, List.set_cons_succ])
        refine wpAnyH_done (by kernel_rfl) ?_ _
        go_wp2
        go_ret
        exact ⟨_, rfl, by rw [HRR.out]; exact OwnL.ext ho.out (by with_reducible (repeat (first | exact Ext.rfl_ _ | assumption | refine Ext.drew ?_ | refine Ext.drewN ?_ _ | refine Ext.alloc ?_ _ | refine Ext.trans ?_ (by assumption)))), (by with_reducible (repeat (first | exact Ext.rfl_ _ | assumption | refine Ext.drew ?_ | refine Ext.drewN ?_ _ | refine Ext.alloc ?_ _ | refine Ext.trans ?_ (by assumption))))⟩
    · have e0 : xs.take k = xs := List.take_of_length_le (by rw [HL.out.1]; omega)
      have hrr : ris none xs = xs := by
        have := h1.out
        rw [e0, List.drop_of_length_le (by rw [HL.out.1]; omega)] at this
        simpa [ris] using this
      have HRR := Lib.hid hrr
      have HE0 := Lib.hid e0
      clear hrr e0
      go_wp2
      go_ret
      exact ⟨_, rfl, by rw [HRR.out]; have := ho.out; rw [HE0.out] at this; exact this, hE⟩

end Go.Proofs.Ytpohmoakilioiaa
