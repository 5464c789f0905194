/- The reference's Sorted: insertion. Conditions: the list reads. -/
import Derived.Test.YteooaplimiifiaaEdOwn
import Derived.Test.YteooaplimiifiaaEdDoM
import Derived.Deep.CutBlock
namespace Go.Proofs.Yteooaplimiifiaa
set_option linter.unusedSimpArgs false
set_option linter.unusedVariables false
open Go.RowKit

theorem RdTa.ext {w w' : World} {base : Nat} {A : Option Addr} {n : Nat} {xs : List Tab} (h : RdTa w base A n xs) (hx : Ext w w') : RdTa w' base A n xs := by
  obtain ⟨hs, h1, h2, h3, h4, h5⟩ := h
  exact ⟨hs, h1, h2, h3, fun hn => by
    obtain ⟨b, o, e, hc⟩ := h4 hn
    exact ⟨b, o, e, fun j u hu => hx.keeps _ _ _ (hc j u hu)⟩, fun k k1 k2 => (h5 k k1 k2).ext hx⟩
theorem RdTa.mono {w : World} {base base' : Nat} {A : Option Addr} {n : Nat} {xs : List Tab} (h : RdTa w base A n xs) (hb : base ≤ base') : RdTa w base' A n xs := by
  obtain ⟨hs, h1, h2, h3, h4, h5⟩ := h
  exact ⟨hs, h1, h2, h3, h4, fun k k1 k2 => ⟨(h5 k k1 k2).1, (h5 k k1 k2).2.1.mono hb, (h5 k k1 k2).2.2.mono hb⟩⟩
theorem RdTa.nil (w : World) (base : Nat) (A : Option Addr) : RdTa w base A 0 [] := ⟨[], rfl, rfl, Nat.zero_le _, fun h => absurd h (by omega), fun k h => absurd h (by simp)⟩
theorem RdTa.take {w : World} {base : Nat} {A : Option Addr} {n : Nat} {xs : List Tab} (h : RdTa w base A n xs) (k : Nat) (hk : k ≤ n) : RdTa w base A k (xs.take k) := by
  obtain ⟨hs, h1, h2, h3, h4, h5⟩ := h
  refine ⟨hs.take k, by simp [h1], by rw [List.length_take]; omega, by omega, fun hn => ?_, fun j k1 k2 => ?_⟩
  · obtain ⟨b, o, e, hc⟩ := h4 (by omega)
    refine ⟨b, o, e, fun j u hu => hc j u ?_⟩
    have e1 := rowT_append (hs := hs.take k) (ks := hs.drop k) (xs := xs.take k) (ys := xs.drop k) (by simp [h1])
    rw [List.take_append_drop, List.take_append_drop] at e1
    rw [e1, List.getElem?_append_left (List.getElem?_eq_some_iff.1 hu).1]
    exact hu
  · simp only [List.getElem_take]
    exact h5 j (by simp at k1; omega) (by simp at k2; omega)
theorem RdTa.drop {w : World} {base b : Nat} {n : Nat} {xs : List Tab} (h : RdTa w base (some ⟨b, 0, none⟩) n xs) (k : Nat) (hk : k ≤ n) : RdTa w base (some ⟨b, k * 5, none⟩) (n - k) (xs.drop k) := by
  obtain ⟨hs, h1, h2, h3, h4, h5⟩ := h
  refine ⟨hs.drop k, by simp [h1], by rw [List.length_drop]; omega, by omega, fun hn => ?_, fun j k1 k2 => ?_⟩
  · obtain ⟨b', o, e, hc⟩ := h4 (by omega)
    cases e
    refine ⟨b, k * 5, rfl, fun j u hu => ?_⟩
    have e1 := rowT_append (hs := hs.take k) (ks := hs.drop k) (xs := xs.take k) (ys := xs.drop k) (by simp [h1])
    rw [List.take_append_drop, List.take_append_drop] at e1
    have hl : (rowT (hs.take k) (xs.take k)).length = k * 5 := by rw [rowT_length (by simp [h1]), List.length_take]; omega
    have := hc (k * 5 + j) u (by
      rw [e1, List.getElem?_append_right (by omega), hl, Nat.add_sub_cancel_left]
      exact hu)
    rwa [Nat.zero_add] at this
  · simp only [List.getElem_drop]
    exact h5 (k + j) (by simp at k1; omega) (by simp at k2; omega)
theorem insT_at {l : List Tab} {x : Tab} {k : Nat} (hk : k ≤ l.length) (h1 : ∀ j o, j < k → l[j]? = some o → aheadT x o = false) (h2 : k < l.length → ∀ o, l[k]? = some o → aheadT x o = true) : insT l x = l.take k ++ x :: l.drop k := by
  have key : ∀ (l : List Tab) (k : Nat), k ≤ l.length → (∀ j o, j < k → l[j]? = some o → aheadT x o = false) → (k < l.length → ∀ o, l[k]? = some o → aheadT x o = true) → l.takeWhile (fun o => !aheadT x o) = l.take k ∧ l.dropWhile (fun o => !aheadT x o) = l.drop k := by
    intro l
    induction l with
    | nil => intro k hk _ _; simp at hk; subst hk; simp
    | cons a l ih =>
      intro k hk h1 h2
      cases k with
      | zero =>
        have := h2 (by simp) a (by simp)
        simp [this]
      | succ k =>
        have ha := h1 0 a (by omega) (by simp)
        have := ih k (by simpa using hk) (fun j o hj ho => h1 (j + 1) o (by omega) (by simpa using ho)) (fun hl o ho => h2 (by simpa using hl) o (by simpa using ho))
        simp [ha, this.1, this.2]
  unfold insT
  obtain ⟨e1, e2⟩ := key l k hk h1 h2
  rw [e1, e2]
theorem srtT_snoc (l : List Tab) (x : Tab) : srtT (l ++ [x]) = insT (srtT l) x := by simp [srtT]
theorem srtT_len (l : List Tab) : (srtT l).length = l.length := (srtT_perm l).length_eq
theorem rd_eltT {w w' : World} {A B : Option Addr} {n c m d : Nat} {t : Tab} {base : Nat} (h : RdT w (.agg #[.int .i64 t.num, .int .i64 t.lvl, .slice A n c, .slice B m d, .int .i64 t.size]) t) (hx : Ext w w') (hb : w.heap.size ≤ base) : ElT w' base ⟨A, n, c, B, m, d⟩ t := by
  have h' := h.ext hx
  obtain ⟨_, _, _, _, _, _, e, r1, r2, _⟩ := h
  cases e
  exact ⟨h', Apt.low _ r1 hb, Apt.low _ r2 hb⟩

theorem ext_none {w w' : World} (h : w.grownBy w' none) : Ext w w' := Ext.of ⟨h.os, h.tape, h.output, h.size, fun k hk => h.block k hk (by simp)⟩

set_option maxRecDepth 100000 in
set_option maxHeartbeats 8000000 in
theorem rsorted_any (A : Option Addr) (n c : Nat) (ts : List Tab) (w : World) (hl : RdLT w A n ts) (hn : n ≤ 1000000) :
    Calls Try.prog 28 #[.slice A n c] w fun e w' => ∃ v', e = .returned v' ∧ ∃ base', w.heap.size ≤ base' ∧ OwnT w' base' v' (srtT ts) ∧ Ext w w' := by
  obtain rfl : ts.length = n := hl.1
  have HL := Lib.hid hl
  clear hl
  go_enter Try.func28, Try.ntmps28
  go_wp2
  go_loopw [3, 4] (fun s i wr => ∃ i' base' : Nat, i = .int .i64 i' ∧ i' ≤ ts.length ∧ w.heap.size ≤ base' ∧ base' ≤ wr.heap.size ∧ Ext w wr ∧ Hid (OwnT wr base' s (srtT (ts.take i')))) (fun _ i _ => ts.length - (intOf i).toNat)
  case atStart => exact ⟨0, w.heap.size, rfl, Nat.zero_le _, Nat.le_refl _, Nat.le_refl _, Ext.rfl_ _, Lib.hid (by simpa [srtT] using OwnT.nil w w.heap.size)⟩
  case round =>
    obtain ⟨i, base', rfl, hi, hb1, hb2, hE, HO⟩ := hrel
    obtain ⟨wo, hwo⟩ : ∃ wo, wo = wr := ⟨_, rfl⟩
    subst hwo
    by_cases cc : (i : Int) < (ts.length : Int)
    rotate_left
    · have HR := Lib.hid (show OwnT wo base' u3 (srtT ts) by
        have e := HO.out
        rwa [List.take_of_length_le (by omega)] at e)
      go_wp2
      go_ret
      exact ⟨_, rfl, base', hb1, HR.out, hE⟩
    obtain ⟨ys, hys⟩ : ∃ ys, ys = srtT (ts.take i) := ⟨_, rfl⟩
    rw [← hys] at HO
    have hyl : ys.length = i := by rw [hys, srtT_len, List.length_take]; omega
    obtain ⟨Ay, cy, rfl, hcy, hry, _, hAy⟩ := HO.out.form (by unfold B47; omega)
    rw [hyl] at hry hcy
    have hra := HO.out.rda (by unfold B47; omega)
    rw [hyl] at hra
    obtain ⟨b, o, A1, n1, c1, A2, n2, c2, t, rfl, ht, ⟨q0, q1, q2, q3, q4⟩, hr⟩ := HL.out.at_ i (by omega)
    have HT0 := Lib.hid ht
    have HNX : Hid (srtT (ts.take (i + 1)) = insT ys t) := Lib.hid (by
      have e : ts.take (i + 1) = ts.take i ++ [t] := by rw [List.take_add_one, ht]; rfl
      rw [e, srtT_snoc, hys])
    have HS := Lib.hid (show ∀ W, Ext wo W → (W.cell? ⟨b, o + i * 5, none⟩ = some (.int .i64 t.num) ∧ W.cell? ⟨b, o + i * 5 + 1, none⟩ = some (.int .i64 t.lvl) ∧ W.cell? ⟨b, o + i * 5 + 2, none⟩ = some (.slice A1 n1 c1) ∧ W.cell? ⟨b, o + i * 5 + 3, none⟩ = some (.slice A2 n2 c2) ∧ W.cell? ⟨b, o + i * 5 + 4, none⟩ = some (.int .i64 t.size)) from
      fun W hW => ⟨(hE.trans hW).keeps _ _ _ q0, (hE.trans hW).keeps _ _ _ q1, (hE.trans hW).keeps _ _ _ q2, (hE.trans hW).keeps _ _ _ q3, (hE.trans hW).keeps _ _ _ q4⟩)
    have HT := Lib.hid hr
    have HRY := Lib.hid hry
    have HRA := Lib.hid hra
    have HYL := Lib.hid hyl
    have HYN : Hid ((srtT (ts.take i)).length = i) := Lib.hid (by rw [← hys]; exact hyl)
    have HEL := Lib.hid (show ∀ W, Ext wo W → ElT W wo.heap.size ⟨A1, n1, c1, A2, n2, c2⟩ t from fun W hW => rd_eltT hr (hE.trans hW) hE.size)
    rw [hyl]
    clear q0 q1 q2 q3 q4 hr ht hry hra hys
    have HEW := Lib.hid hE
    clear hE
    go_upto_block 2 with (fail)
    go_cut [5] from 12 to 29 (fun k wx => ∃ k' : Nat, k = .int .i64 k' ∧ k' ≤ i ∧ Ext wo wx ∧ Hid (∀ j o, j < k' → ys[j]? = some o → aheadT t o = false) ∧ Hid (k' < i → ∀ o, ys[k']? = some o → aheadT t o = true))
    case first =>
      go_wp2
      go_loopw [5] (fun k wr2 => ∃ k' : Nat, k = .int .i64 k' ∧ k' ≤ i ∧ Ext wo wr2 ∧ Hid (∀ j o, j < k' → ys[j]? = some o → aheadT t o = false)) (fun k _ => i - (intOf k).toNat)
      case atStart => exact ⟨0, rfl, Nat.zero_le _, Ext.rfl_ _, Lib.hid (fun j u hj => absurd hj (by omega))⟩
      case round =>
        obtain ⟨k, rfl, hk, hE2, HG⟩ := hrel
        by_cases c2' : (k : Int) < (i : Int)
        rotate_left
        · have cf : decide ((k : Int) < (i : Int)) = false := decide_eq_false c2'
          have cfn : decide (k < i) = false := decide_eq_false (by omega)
          go_wp2
          refine wp_region_held_drew (S := (fun W => True)) (by kernel_rfl) (by (try dsimp only); (try exact trivial)) (fun hHeld => ?_)
          refine wpAnyH_take (i := 0) (oi := ({ dst := some 12, op := .move (.tmp 5), type := 3, pos := "ref.go:68", after := #[], guard := none } : Go.Oper)) (v := ?v1) rfl (by kernel_rfl) (by kernel_rfl) (by kernel_rfl) (fun _ _ _ h => h) (Or.inl ⟨by rfl, ?hy1⟩) (by assumption) ?rest1
          case hy1 => (intro w hSw; (try dsimp only at hSw); go_simp; (try with_reducible rfl))
          (try simp only [Act.put, List.getElem_toArray, List.getElem_cons_zero, List.getElem_cons_succ, List.setIfInBounds_toArray, List.set_cons_zero, List.set_cons_succ])
          refine wpAnyH_take (i := 1) (oi := ({ dst := some 13, op := .move (.tmp 3), type := 22, pos := "ref.go:68", after := #[], guard := none } : Go.Oper)) (v := ?v2) rfl (by kernel_rfl) (by kernel_rfl) (by kernel_rfl) (fun _ _ _ h => h) (Or.inl ⟨by rfl, ?hy2⟩) (by assumption) ?rest2
          case hy2 => (intro w hSw; (try dsimp only at hSw); go_simp; (try with_reducible rfl))
          (try simp only [Act.put, List.getElem_toArray, List.getElem_cons_zero, List.getElem_cons_succ, List.setIfInBounds_toArray, List.set_cons_zero, List.set_cons_succ])
          refine wpAnyH_take (i := 2) (oi := ({ dst := some 14, op := .call { callee := .builtin .len, args := #[.tmp 13], argTypes := #[22] }, type := 3, pos := "ref.go:68", after := #[⟨1, .data⟩], guard := none } : Go.Oper)) (v := ?v3) rfl (by kernel_rfl) (by kernel_rfl) (by kernel_rfl) (fun _ _ _ h => h) (Or.inl ⟨by rfl, ?hy3⟩) (by assumption) ?rest3
          case hy3 => (intro w hSw; (try dsimp only at hSw); go_simp; (try with_reducible rfl))
          (try simp only [Act.put, List.getElem_toArray, List.getElem_cons_zero, List.getElem_cons_succ, List.setIfInBounds_toArray, List.set_cons_zero, List.set_cons_succ])
          refine wpAnyH_take (i := 3) (oi := ({ dst := some 15, op := .binOp .lss 3 (.tmp 12) (.tmp 14) 3, type := 4, pos := "ref.go:68", after := #[⟨0, .data⟩, ⟨2, .data⟩], guard := none } : Go.Oper)) (v := ?v4) rfl (by kernel_rfl) (by kernel_rfl) (by kernel_rfl) (fun _ _ _ h => h) (Or.inl ⟨by rfl, ?hy4⟩) (by assumption) ?rest4
          case hy4 => (intro w hSw; (try dsimp only at hSw); go_simp; (try with_reducible rfl))
          (try simp only [Act.put, List.getElem_toArray, List.getElem_cons_zero, List.getElem_cons_succ, List.setIfInBounds_toArray, List.set_cons_zero, List.set_cons_succ])
          refine wpAnyH_take (i := 4) (oi := ({ dst := some 16, op := .move (.tmp 15), type := 4, pos := "ref.go:68", after := #[⟨3, .data⟩], guard := none } : Go.Oper)) (v := ?v5) rfl (by kernel_rfl) (by kernel_rfl) (by kernel_rfl) (fun _ _ _ h => h) (Or.inl ⟨by rfl, ?hy5⟩) (by assumption) ?rest5
          case hy5 => (intro w hSw; (try dsimp only at hSw); go_simp; (try with_reducible rfl))
          (try simp only [Act.put, List.getElem_toArray, List.getElem_cons_zero, List.getElem_cons_succ, List.setIfInBounds_toArray, List.set_cons_zero, List.set_cons_succ])
          refine wpAnyH_take (i := 5) (oi := ({ dst := some 17, op := .move (.tmp 0), type := 22, pos := "ref.go:68", after := #[⟨4, .guard⟩], guard := some (4, true) } : Go.Oper)) (v := undef) rfl (by kernel_rfl) (by kernel_rfl) (by kernel_rfl) (fun _ _ _ h => h) (Or.inr ⟨by rfl, rfl⟩) (by assumption) ?_
          (try simp only [Act.put, List.getElem_toArray, List.getElem_cons_zero, List.getElem_cons_succ, List.setIfInBounds_toArray, List.set_cons_zero, List.set_cons_succ])
          refine wpAnyH_take (i := 6) (oi := ({ dst := some 18, op := .move (.tmp 4), type := 3, pos := "ref.go:68", after := #[⟨4, .guard⟩], guard := some (4, true) } : Go.Oper)) (v := undef) rfl (by kernel_rfl) (by kernel_rfl) (by kernel_rfl) (fun _ _ _ h => h) (Or.inr ⟨by rfl, rfl⟩) (by assumption) ?_
          (try simp only [Act.put, List.getElem_toArray, List.getElem_cons_zero, List.getElem_cons_succ, List.setIfInBounds_toArray, List.set_cons_zero, List.set_cons_succ])
          refine wpAnyH_take (i := 7) (oi := ({ dst := some 19, op := .indexAddr 22 (.tmp 17) (.tmp 18), type := 0, pos := "ref.go:68", after := #[⟨5, .data⟩, ⟨6, .data⟩, ⟨4, .guard⟩], guard := some (4, true) } : Go.Oper)) (v := undef) rfl (by kernel_rfl) (by kernel_rfl) (by kernel_rfl) (fun _ _ _ h => h) (Or.inr ⟨by rfl, rfl⟩) (by assumption) ?_
          (try simp only [Act.put, List.getElem_toArray, List.getElem_cons_zero, List.getElem_cons_succ, List.setIfInBounds_toArray, List.set_cons_zero, List.set_cons_succ])
          refine wpAnyH_take (i := 8) (oi := ({ dst := some 20, op := .load 40 (.tmp 19), type := 40, pos := "ref.go:68", after := #[⟨7, .data⟩, ⟨4, .guard⟩], guard := some (4, true) } : Go.Oper)) (v := undef) rfl (by kernel_rfl) (by kernel_rfl) (by kernel_rfl) (fun _ _ _ h => h) (Or.inr ⟨by rfl, rfl⟩) (by assumption) ?_
          (try simp only [Act.put, List.getElem_toArray, List.getElem_cons_zero, List.getElem_cons_succ, List.setIfInBounds_toArray, List.set_cons_zero, List.set_cons_succ])
          refine wpAnyH_take (i := 9) (oi := ({ dst := some 21, op := .move (.tmp 3), type := 22, pos := "ref.go:68", after := #[⟨4, .guard⟩], guard := some (4, true) } : Go.Oper)) (v := undef) rfl (by kernel_rfl) (by kernel_rfl) (by kernel_rfl) (fun _ _ _ h => h) (Or.inr ⟨by rfl, rfl⟩) (by assumption) ?_
          (try simp only [Act.put, List.getElem_toArray, List.getElem_cons_zero, List.getElem_cons_succ, List.setIfInBounds_toArray, List.set_cons_zero, List.set_cons_succ])
          refine wpAnyH_take (i := 10) (oi := ({ dst := some 22, op := .move (.tmp 5), type := 3, pos := "ref.go:68", after := #[⟨4, .guard⟩], guard := some (4, true) } : Go.Oper)) (v := undef) rfl (by kernel_rfl) (by kernel_rfl) (by kernel_rfl) (fun _ _ _ h => h) (Or.inr ⟨by rfl, rfl⟩) (by assumption) ?_
          (try simp only [Act.put, List.getElem_toArray, List.getElem_cons_zero, List.getElem_cons_succ, List.setIfInBounds_toArray, List.set_cons_zero, List.set_cons_succ])
          refine wpAnyH_take (i := 11) (oi := ({ dst := some 23, op := .indexAddr 22 (.tmp 21) (.tmp 22), type := 0, pos := "ref.go:68", after := #[⟨9, .data⟩, ⟨10, .data⟩, ⟨4, .guard⟩], guard := some (4, true) } : Go.Oper)) (v := undef) rfl (by kernel_rfl) (by kernel_rfl) (by kernel_rfl) (fun _ _ _ h => h) (Or.inr ⟨by rfl, rfl⟩) (by assumption) ?_
          (try simp only [Act.put, List.getElem_toArray, List.getElem_cons_zero, List.getElem_cons_succ, List.setIfInBounds_toArray, List.set_cons_zero, List.set_cons_succ])
          refine wpAnyH_take (i := 12) (oi := ({ dst := some 24, op := .load 40 (.tmp 23), type := 40, pos := "ref.go:68", after := #[⟨11, .data⟩, ⟨4, .guard⟩], guard := some (4, true) } : Go.Oper)) (v := undef) rfl (by kernel_rfl) (by kernel_rfl) (by kernel_rfl) (fun _ _ _ h => h) (Or.inr ⟨by rfl, rfl⟩) (by assumption) ?_
          (try simp only [Act.put, List.getElem_toArray, List.getElem_cons_zero, List.getElem_cons_succ, List.setIfInBounds_toArray, List.set_cons_zero, List.set_cons_succ])
          refine wpAnyH_take (i := 13) (oi := ({ dst := some 25, op := .call { callee := .value (.func 22), args := #[.tmp 20, .tmp 24], argTypes := #[40, 40] }, type := 4, pos := "ref.go:68", after := #[⟨8, .data⟩, ⟨12, .data⟩, ⟨4, .chain⟩, ⟨4, .guard⟩], guard := some (4, true) } : Go.Oper)) (v := undef) rfl (by kernel_rfl) (by kernel_rfl) (by kernel_rfl) (fun _ _ _ h => h) (Or.inr ⟨by rfl, rfl⟩) (by assumption) ?_
          (try simp only [Act.put, List.getElem_toArray, List.getElem_cons_zero, List.getElem_cons_succ, List.setIfInBounds_toArray, List.set_cons_zero, List.set_cons_succ])
          refine wpAnyH_take (i := 14) (oi := ({ dst := some 26, op := .unOp .not 4 (.tmp 25), type := 4, pos := "ref.go:68", after := #[⟨13, .data⟩, ⟨4, .guard⟩], guard := some (4, true) } : Go.Oper)) (v := undef) rfl (by kernel_rfl) (by kernel_rfl) (by kernel_rfl) (fun _ _ _ h => h) (Or.inr ⟨by rfl, rfl⟩) (by assumption) ?_
          (try simp only [Act.put, List.getElem_toArray, List.getElem_cons_zero, List.getElem_cons_succ, List.setIfInBounds_toArray, List.set_cons_zero, List.set_cons_succ])
          refine wpAnyH_take (i := 15) (oi := ({ dst := some 27, op := .pick (.tmp 16) (.tmp 26) (.const (.bool false)), type := 4, pos := "ref.go:68", after := #[⟨4, .data⟩, ⟨14, .data⟩], guard := none } : Go.Oper)) (v := ?v6) rfl (by kernel_rfl) (by kernel_rfl) (by kernel_rfl) (fun _ _ _ h => h) (Or.inl ⟨by rfl, ?hy6⟩) (by assumption) ?rest6
          case hy6 => (intro w hSw; (try dsimp only at hSw); go_simp; (try with_reducible rfl))
          (try simp only [Act.put, List.getElem_toArray, List.getElem_cons_zero, List.getElem_cons_succ, List.setIfInBounds_toArray, List.set_cons_zero, List.set_cons_succ])
          refine wpAnyH_done (by kernel_rfl) ?_ _
          go_wp2
          go_meet
          exact ⟨k, rfl, hk, (by with_reducible (repeat (first | exact Ext.rfl_ _ | assumption | refine Ext.drew ?_ | refine Ext.drewN ?_ _ | refine Ext.alloc ?_ _ | refine Ext.trans ?_ (by assumption)))), HG, Lib.hid (fun h => absurd h (by omega))⟩
        obtain ⟨by_, oy, A3, n3, c3, A4, n4, c4, y, rfl, hy, ⟨r0, r1, r2, r3, r4⟩, hry⟩ := HRY.out.at_ k (by omega)
        have HY := Lib.hid hy
        have HYR := Lib.hid hry
        have HS2 := Lib.hid (show ∀ W, Ext wo W → (W.cell? ⟨by_, oy + k * 5, none⟩ = some (.int .i64 y.num) ∧ W.cell? ⟨by_, oy + k * 5 + 1, none⟩ = some (.int .i64 y.lvl) ∧ W.cell? ⟨by_, oy + k * 5 + 2, none⟩ = some (.slice A3 n3 c3) ∧ W.cell? ⟨by_, oy + k * 5 + 3, none⟩ = some (.slice A4 n4 c4) ∧ W.cell? ⟨by_, oy + k * 5 + 4, none⟩ = some (.int .i64 y.size)) from
          fun W hW => ⟨hW.keeps _ _ _ r0, hW.keeps _ _ _ r1, hW.keeps _ _ _ r2, hW.keeps _ _ _ r3, hW.keeps _ _ _ r4⟩)
        have ct : decide ((k : Int) < (i : Int)) = true := decide_eq_true c2'
        have ctn : decide (k < i) = true := decide_eq_true (by omega)
        clear r0 r1 r2 r3 r4 hry hy
        by_cases ha : aheadT t y = true
        · have HA := Lib.hid ha
          clear ha
          go_wp2
          refine wp_region_held_drew (S := (fun W => (W.cell? ⟨b, o + i * 5, none⟩ = some (.int .i64 t.num) ∧ W.cell? ⟨b, o + i * 5 + 1, none⟩ = some (.int .i64 t.lvl) ∧ W.cell? ⟨b, o + i * 5 + 2, none⟩ = some (.slice A1 n1 c1) ∧ W.cell? ⟨b, o + i * 5 + 3, none⟩ = some (.slice A2 n2 c2) ∧ W.cell? ⟨b, o + i * 5 + 4, none⟩ = some (.int .i64 t.size)) ∧ (W.cell? ⟨by_, oy + k * 5, none⟩ = some (.int .i64 y.num) ∧ W.cell? ⟨by_, oy + k * 5 + 1, none⟩ = some (.int .i64 y.lvl) ∧ W.cell? ⟨by_, oy + k * 5 + 2, none⟩ = some (.slice A3 n3 c3) ∧ W.cell? ⟨by_, oy + k * 5 + 3, none⟩ = some (.slice A4 n4 c4) ∧ W.cell? ⟨by_, oy + k * 5 + 4, none⟩ = some (.int .i64 y.size)))) (by kernel_rfl) (by (try dsimp only); exact ⟨HS.out _ (by with_reducible (repeat (first | exact Ext.rfl_ _ | assumption | refine Ext.drew ?_ | refine Ext.drewN ?_ _ | refine Ext.alloc ?_ _ | refine Ext.trans ?_ (by assumption)))), HS2.out _ (by with_reducible (repeat (first | exact Ext.rfl_ _ | assumption | refine Ext.drew ?_ | refine Ext.drewN ?_ _ | refine Ext.alloc ?_ _ | refine Ext.trans ?_ (by assumption))))⟩) (fun hHeld => ?_)
          refine wpAnyH_take (i := 0) (oi := ({ dst := some 12, op := .move (.tmp 5), type := 3, pos := "ref.go:68", after := #[], guard := none } : Go.Oper)) (v := ?v7) rfl (by kernel_rfl) (by kernel_rfl) (by kernel_rfl) (fun _ _ _ h => h) (Or.inl ⟨by rfl, ?hy7⟩) (by assumption) ?rest7
          case hy7 => (intro w hSw; (try dsimp only at hSw); go_simp; (try with_reducible rfl))
          (try simp only [Act.put, List.getElem_toArray, List.getElem_cons_zero, List.getElem_cons_succ, List.setIfInBounds_toArray, List.set_cons_zero, List.set_cons_succ])
          refine wpAnyH_take (i := 1) (oi := ({ dst := some 13, op := .move (.tmp 3), type := 22, pos := "ref.go:68", after := #[], guard := none } : Go.Oper)) (v := ?v8) rfl (by kernel_rfl) (by kernel_rfl) (by kernel_rfl) (fun _ _ _ h => h) (Or.inl ⟨by rfl, ?hy8⟩) (by assumption) ?rest8
          case hy8 => (intro w hSw; (try dsimp only at hSw); go_simp; (try with_reducible rfl))
          (try simp only [Act.put, List.getElem_toArray, List.getElem_cons_zero, List.getElem_cons_succ, List.setIfInBounds_toArray, List.set_cons_zero, List.set_cons_succ])
          refine wpAnyH_take (i := 2) (oi := ({ dst := some 14, op := .call { callee := .builtin .len, args := #[.tmp 13], argTypes := #[22] }, type := 3, pos := "ref.go:68", after := #[⟨1, .data⟩], guard := none } : Go.Oper)) (v := ?v9) rfl (by kernel_rfl) (by kernel_rfl) (by kernel_rfl) (fun _ _ _ h => h) (Or.inl ⟨by rfl, ?hy9⟩) (by assumption) ?rest9
          case hy9 => (intro w hSw; (try dsimp only at hSw); go_simp; (try with_reducible rfl))
          (try simp only [Act.put, List.getElem_toArray, List.getElem_cons_zero, List.getElem_cons_succ, List.setIfInBounds_toArray, List.set_cons_zero, List.set_cons_succ])
          refine wpAnyH_take (i := 3) (oi := ({ dst := some 15, op := .binOp .lss 3 (.tmp 12) (.tmp 14) 3, type := 4, pos := "ref.go:68", after := #[⟨0, .data⟩, ⟨2, .data⟩], guard := none } : Go.Oper)) (v := ?v10) rfl (by kernel_rfl) (by kernel_rfl) (by kernel_rfl) (fun _ _ _ h => h) (Or.inl ⟨by rfl, ?hy10⟩) (by assumption) ?rest10
          case hy10 => (intro w hSw; (try dsimp only at hSw); go_simp; (try with_reducible rfl))
          (try simp only [Act.put, List.getElem_toArray, List.getElem_cons_zero, List.getElem_cons_succ, List.setIfInBounds_toArray, List.set_cons_zero, List.set_cons_succ])
          refine wpAnyH_take (i := 4) (oi := ({ dst := some 16, op := .move (.tmp 15), type := 4, pos := "ref.go:68", after := #[⟨3, .data⟩], guard := none } : Go.Oper)) (v := ?v11) rfl (by kernel_rfl) (by kernel_rfl) (by kernel_rfl) (fun _ _ _ h => h) (Or.inl ⟨by rfl, ?hy11⟩) (by assumption) ?rest11
          case hy11 => (intro w hSw; (try dsimp only at hSw); go_simp; (try with_reducible rfl))
          (try simp only [Act.put, List.getElem_toArray, List.getElem_cons_zero, List.getElem_cons_succ, List.setIfInBounds_toArray, List.set_cons_zero, List.set_cons_succ])
          refine wpAnyH_take (i := 5) (oi := ({ dst := some 17, op := .move (.tmp 0), type := 22, pos := "ref.go:68", after := #[⟨4, .guard⟩], guard := some (4, true) } : Go.Oper)) (v := ?v12) rfl (by kernel_rfl) (by kernel_rfl) (by kernel_rfl) (fun _ _ _ h => h) (Or.inl ⟨by rfl, ?hy12⟩) (by assumption) ?rest12
          case hy12 => (intro w hSw; (try dsimp only at hSw); go_simp; (try with_reducible rfl))
          (try simp only [Act.put, List.getElem_toArray, List.getElem_cons_zero, List.getElem_cons_succ, List.setIfInBounds_toArray, List.set_cons_zero, List.set_cons_succ])
          refine wpAnyH_take (i := 6) (oi := ({ dst := some 18, op := .move (.tmp 4), type := 3, pos := "ref.go:68", after := #[⟨4, .guard⟩], guard := some (4, true) } : Go.Oper)) (v := ?v13) rfl (by kernel_rfl) (by kernel_rfl) (by kernel_rfl) (fun _ _ _ h => h) (Or.inl ⟨by rfl, ?hy13⟩) (by assumption) ?rest13
          case hy13 => (intro w hSw; (try dsimp only at hSw); go_simp; (try with_reducible rfl))
          (try simp only [Act.put, List.getElem_toArray, List.getElem_cons_zero, List.getElem_cons_succ, List.setIfInBounds_toArray, List.set_cons_zero, List.set_cons_succ])
          refine wpAnyH_take (i := 7) (oi := ({ dst := some 19, op := .indexAddr 22 (.tmp 17) (.tmp 18), type := 0, pos := "ref.go:68", after := #[⟨5, .data⟩, ⟨6, .data⟩, ⟨4, .guard⟩], guard := some (4, true) } : Go.Oper)) (v := ?v14) rfl (by kernel_rfl) (by kernel_rfl) (by kernel_rfl) (fun _ _ _ h => h) (Or.inl ⟨by rfl, ?hy14⟩) (by assumption) ?rest14
          case hy14 => (intro w hSw; (try dsimp only at hSw); go_simp; (try with_reducible rfl))
          (try simp only [Act.put, List.getElem_toArray, List.getElem_cons_zero, List.getElem_cons_succ, List.setIfInBounds_toArray, List.set_cons_zero, List.set_cons_succ])
          refine wpAnyH_take (i := 8) (oi := ({ dst := some 20, op := .load 40 (.tmp 19), type := 40, pos := "ref.go:68", after := #[⟨7, .data⟩, ⟨4, .guard⟩], guard := some (4, true) } : Go.Oper)) (v := ?v15) rfl (by kernel_rfl) (by kernel_rfl) (by kernel_rfl) (fun _ _ _ h => h) (Or.inl ⟨by rfl, ?hy15⟩) (by assumption) ?rest15
          case hy15 => (intro w hSw; (try dsimp only at hSw); go_simp; (try with_reducible rfl))
          (try simp only [Act.put, List.getElem_toArray, List.getElem_cons_zero, List.getElem_cons_succ, List.setIfInBounds_toArray, List.set_cons_zero, List.set_cons_succ])
          refine wpAnyH_take (i := 9) (oi := ({ dst := some 21, op := .move (.tmp 3), type := 22, pos := "ref.go:68", after := #[⟨4, .guard⟩], guard := some (4, true) } : Go.Oper)) (v := ?v16) rfl (by kernel_rfl) (by kernel_rfl) (by kernel_rfl) (fun _ _ _ h => h) (Or.inl ⟨by rfl, ?hy16⟩) (by assumption) ?rest16
          case hy16 => (intro w hSw; (try dsimp only at hSw); go_simp; (try with_reducible rfl))
          (try simp only [Act.put, List.getElem_toArray, List.getElem_cons_zero, List.getElem_cons_succ, List.setIfInBounds_toArray, List.set_cons_zero, List.set_cons_succ])
          refine wpAnyH_take (i := 10) (oi := ({ dst := some 22, op := .move (.tmp 5), type := 3, pos := "ref.go:68", after := #[⟨4, .guard⟩], guard := some (4, true) } : Go.Oper)) (v := ?v17) rfl (by kernel_rfl) (by kernel_rfl) (by kernel_rfl) (fun _ _ _ h => h) (Or.inl ⟨by rfl, ?hy17⟩) (by assumption) ?rest17
          case hy17 => (intro w hSw; (try dsimp only at hSw); go_simp; (try with_reducible rfl))
          (try simp only [Act.put, List.getElem_toArray, List.getElem_cons_zero, List.getElem_cons_succ, List.setIfInBounds_toArray, List.set_cons_zero, List.set_cons_succ])
          refine wpAnyH_take (i := 11) (oi := ({ dst := some 23, op := .indexAddr 22 (.tmp 21) (.tmp 22), type := 0, pos := "ref.go:68", after := #[⟨9, .data⟩, ⟨10, .data⟩, ⟨4, .guard⟩], guard := some (4, true) } : Go.Oper)) (v := ?v18) rfl (by kernel_rfl) (by kernel_rfl) (by kernel_rfl) (fun _ _ _ h => h) (Or.inl ⟨by rfl, ?hy18⟩) (by assumption) ?rest18
          case hy18 => (intro w hSw; (try dsimp only at hSw); go_simp; (try with_reducible rfl))
          (try simp only [Act.put, List.getElem_toArray, List.getElem_cons_zero, List.getElem_cons_succ, List.setIfInBounds_toArray, List.set_cons_zero, List.set_cons_succ])
          refine wpAnyH_take (i := 12) (oi := ({ dst := some 24, op := .load 40 (.tmp 23), type := 40, pos := "ref.go:68", after := #[⟨11, .data⟩, ⟨4, .guard⟩], guard := some (4, true) } : Go.Oper)) (v := ?v19) rfl (by kernel_rfl) (by kernel_rfl) (by kernel_rfl) (fun _ _ _ h => h) (Or.inl ⟨by rfl, ?hy19⟩) (by assumption) ?rest19
          case hy19 => (intro w hSw; (try dsimp only at hSw); go_simp; (try with_reducible rfl))
          (try simp only [Act.put, List.getElem_toArray, List.getElem_cons_zero, List.getElem_cons_succ, List.setIfInBounds_toArray, List.set_cons_zero, List.set_cons_succ])
          refine wpAnyH_ready (rs := [13]) (by kernel_rfl) (by simp) ?_
          refine AllReadyH.cons (o := ({ dst := some 25, op := .call { callee := .value (.func 22), args := #[.tmp 20, .tmp 24], argTypes := #[40, 40] }, type := 4, pos := "ref.go:68", after := #[⟨8, .data⟩, ⟨12, .data⟩, ⟨4, .chain⟩, ⟨4, .guard⟩], guard := some (4, true) } : Go.Oper)) rfl (fun K hK => ?_) AllReadyH.nil
          go_simp
          (go_at_call 22; refine (rahead_any _ _ t y _ (HT.out.ext (HEW.out.trans (by with_reducible (repeat (first | exact Ext.rfl_ _ | assumption | refine Ext.drew ?_ | refine Ext.drewN ?_ _ | refine Ext.alloc ?_ _ | refine Ext.trans ?_ (by assumption)))))) (HYR.out.ext (by with_reducible (repeat (first | exact Ext.rfl_ _ | assumption | refine Ext.drew ?_ | refine Ext.drewN ?_ _ | refine Ext.alloc ?_ _ | refine Ext.trans ?_ (by assumption)))))).mono ?_; rintro e w4 ⟨rfl, hw4⟩; rw [HA.out])
          (try (go_wp2_with fail))
          refine hK.out _ _ (by (try dsimp only); exact ⟨HS.out _ (by with_reducible (repeat (first | exact Ext.rfl_ _ | assumption | refine Ext.drew ?_ | refine Ext.drewN ?_ _ | refine Ext.alloc ?_ _ | refine Ext.trans ?_ (by assumption)))), HS2.out _ (by with_reducible (repeat (first | exact Ext.rfl_ _ | assumption | refine Ext.drew ?_ | refine Ext.drewN ?_ _ | refine Ext.alloc ?_ _ | refine Ext.trans ?_ (by assumption))))⟩) (fun hHeld => ?_)
          clear hK K
          (try simp only [Act.put, List.getElem_toArray, List.getElem_cons_zero, List.getElem_cons_succ, List.setIfInBounds_toArray, List.set_cons_zero, List.set_cons_succ])
          refine wpAnyH_take (i := 14) (oi := ({ dst := some 26, op := .unOp .not 4 (.tmp 25), type := 4, pos := "ref.go:68", after := #[⟨13, .data⟩, ⟨4, .guard⟩], guard := some (4, true) } : Go.Oper)) (v := ?v20) rfl (by kernel_rfl) (by kernel_rfl) (by kernel_rfl) (fun _ _ _ h => h) (Or.inl ⟨by rfl, ?hy20⟩) (by assumption) ?rest20
          case hy20 => (intro w hSw; (try dsimp only at hSw); go_simp; (try with_reducible rfl))
          (try simp only [Act.put, List.getElem_toArray, List.getElem_cons_zero, List.getElem_cons_succ, List.setIfInBounds_toArray, List.set_cons_zero, List.set_cons_succ])
          refine wpAnyH_take (i := 15) (oi := ({ dst := some 27, op := .pick (.tmp 16) (.tmp 26) (.const (.bool false)), type := 4, pos := "ref.go:68", after := #[⟨4, .data⟩, ⟨14, .data⟩], guard := none } : Go.Oper)) (v := ?v21) rfl (by kernel_rfl) (by kernel_rfl) (by kernel_rfl) (fun _ _ _ h => h) (Or.inl ⟨by rfl, ?hy21⟩) (by assumption) ?rest21
          case hy21 => (intro w hSw; (try dsimp only at hSw); go_simp; (try with_reducible rfl))
          (try simp only [Act.put, List.getElem_toArray, List.getElem_cons_zero, List.getElem_cons_succ, List.setIfInBounds_toArray, List.set_cons_zero, List.set_cons_succ])
          refine wpAnyH_done (by kernel_rfl) ?_ _
          go_wp2
          go_meet
          exact ⟨k, rfl, hk, (by with_reducible (repeat (first | exact Ext.rfl_ _ | assumption | refine Ext.drew ?_ | refine Ext.drewN ?_ _ | refine Ext.alloc ?_ _ | refine Ext.trans ?_ (by assumption)))), HG, Lib.hid (fun _ u hu => by rw [HY.out] at hu; cases hu; exact HA.out)⟩
        · have ha' : aheadT t y = false := by simpa using ha
          have HA := Lib.hid ha'
          clear ha ha'
          go_wp2
          refine wp_region_held_drew (S := (fun W => (W.cell? ⟨b, o + i * 5, none⟩ = some (.int .i64 t.num) ∧ W.cell? ⟨b, o + i * 5 + 1, none⟩ = some (.int .i64 t.lvl) ∧ W.cell? ⟨b, o + i * 5 + 2, none⟩ = some (.slice A1 n1 c1) ∧ W.cell? ⟨b, o + i * 5 + 3, none⟩ = some (.slice A2 n2 c2) ∧ W.cell? ⟨b, o + i * 5 + 4, none⟩ = some (.int .i64 t.size)) ∧ (W.cell? ⟨by_, oy + k * 5, none⟩ = some (.int .i64 y.num) ∧ W.cell? ⟨by_, oy + k * 5 + 1, none⟩ = some (.int .i64 y.lvl) ∧ W.cell? ⟨by_, oy + k * 5 + 2, none⟩ = some (.slice A3 n3 c3) ∧ W.cell? ⟨by_, oy + k * 5 + 3, none⟩ = some (.slice A4 n4 c4) ∧ W.cell? ⟨by_, oy + k * 5 + 4, none⟩ = some (.int .i64 y.size)))) (by kernel_rfl) (by (try dsimp only); exact ⟨HS.out _ (by with_reducible (repeat (first | exact Ext.rfl_ _ | assumption | refine Ext.drew ?_ | refine Ext.drewN ?_ _ | refine Ext.alloc ?_ _ | refine Ext.trans ?_ (by assumption)))), HS2.out _ (by with_reducible (repeat (first | exact Ext.rfl_ _ | assumption | refine Ext.drew ?_ | refine Ext.drewN ?_ _ | refine Ext.alloc ?_ _ | refine Ext.trans ?_ (by assumption))))⟩) (fun hHeld => ?_)
          refine wpAnyH_take (i := 0) (oi := ({ dst := some 12, op := .move (.tmp 5), type := 3, pos := "ref.go:68", after := #[], guard := none } : Go.Oper)) (v := ?v22) rfl (by kernel_rfl) (by kernel_rfl) (by kernel_rfl) (fun _ _ _ h => h) (Or.inl ⟨by rfl, ?hy22⟩) (by assumption) ?rest22
          case hy22 => (intro w hSw; (try dsimp only at hSw); go_simp; (try with_reducible rfl))
          (try simp only [Act.put, List.getElem_toArray, List.getElem_cons_zero, List.getElem_cons_succ, List.setIfInBounds_toArray, List.set_cons_zero, List.set_cons_succ])
          refine wpAnyH_take (i := 1) (oi := ({ dst := some 13, op := .move (.tmp 3), type := 22, pos := "ref.go:68", after := #[], guard := none } : Go.Oper)) (v := ?v23) rfl (by kernel_rfl) (by kernel_rfl) (by kernel_rfl) (fun _ _ _ h => h) (Or.inl ⟨by rfl, ?hy23⟩) (by assumption) ?rest23
          case hy23 => (intro w hSw; (try dsimp only at hSw); go_simp; (try with_reducible rfl))
          (try simp only [Act.put, List.getElem_toArray, List.getElem_cons_zero, List.getElem_cons_succ, List.setIfInBounds_toArray, List.set_cons_zero, List.set_cons_succ])
          refine wpAnyH_take (i := 2) (oi := ({ dst := some 14, op := .call { callee := .builtin .len, args := #[.tmp 13], argTypes := #[22] }, type := 3, pos := "ref.go:68", after := #[⟨1, .data⟩], guard := none } : Go.Oper)) (v := ?v24) rfl (by kernel_rfl) (by kernel_rfl) (by kernel_rfl) (fun _ _ _ h => h) (Or.inl ⟨by rfl, ?hy24⟩) (by assumption) ?rest24
          case hy24 => (intro w hSw; (try dsimp only at hSw); go_simp; (try with_reducible rfl))
          (try simp only [Act.put, List.getElem_toArray, List.getElem_cons_zero, List.getElem_cons_succ, List.setIfInBounds_toArray, List.set_cons_zero, List.set_cons_succ])
          refine wpAnyH_take (i := 3) (oi := ({ dst := some 15, op := .binOp .lss 3 (.tmp 12) (.tmp 14) 3, type := 4, pos := "ref.go:68", after := #[⟨0, .data⟩, ⟨2, .data⟩], guard := none } : Go.Oper)) (v := ?v25) rfl (by kernel_rfl) (by kernel_rfl) (by kernel_rfl) (fun _ _ _ h => h) (Or.inl ⟨by rfl, ?hy25⟩) (by assumption) ?rest25
          case hy25 => (intro w hSw; (try dsimp only at hSw); go_simp; (try with_reducible rfl))
          (try simp only [Act.put, List.getElem_toArray, List.getElem_cons_zero, List.getElem_cons_succ, List.setIfInBounds_toArray, List.set_cons_zero, List.set_cons_succ])
          refine wpAnyH_take (i := 4) (oi := ({ dst := some 16, op := .move (.tmp 15), type := 4, pos := "ref.go:68", after := #[⟨3, .data⟩], guard := none } : Go.Oper)) (v := ?v26) rfl (by kernel_rfl) (by kernel_rfl) (by kernel_rfl) (fun _ _ _ h => h) (Or.inl ⟨by rfl, ?hy26⟩) (by assumption) ?rest26
          case hy26 => (intro w hSw; (try dsimp only at hSw); go_simp; (try with_reducible rfl))
          (try simp only [Act.put, List.getElem_toArray, List.getElem_cons_zero, List.getElem_cons_succ, List.setIfInBounds_toArray, List.set_cons_zero, List.set_cons_succ])
          refine wpAnyH_take (i := 5) (oi := ({ dst := some 17, op := .move (.tmp 0), type := 22, pos := "ref.go:68", after := #[⟨4, .guard⟩], guard := some (4, true) } : Go.Oper)) (v := ?v27) rfl (by kernel_rfl) (by kernel_rfl) (by kernel_rfl) (fun _ _ _ h => h) (Or.inl ⟨by rfl, ?hy27⟩) (by assumption) ?rest27
          case hy27 => (intro w hSw; (try dsimp only at hSw); go_simp; (try with_reducible rfl))
          (try simp only [Act.put, List.getElem_toArray, List.getElem_cons_zero, List.getElem_cons_succ, List.setIfInBounds_toArray, List.set_cons_zero, List.set_cons_succ])
          refine wpAnyH_take (i := 6) (oi := ({ dst := some 18, op := .move (.tmp 4), type := 3, pos := "ref.go:68", after := #[⟨4, .guard⟩], guard := some (4, true) } : Go.Oper)) (v := ?v28) rfl (by kernel_rfl) (by kernel_rfl) (by kernel_rfl) (fun _ _ _ h => h) (Or.inl ⟨by rfl, ?hy28⟩) (by assumption) ?rest28
          case hy28 => (intro w hSw; (try dsimp only at hSw); go_simp; (try with_reducible rfl))
          (try simp only [Act.put, List.getElem_toArray, List.getElem_cons_zero, List.getElem_cons_succ, List.setIfInBounds_toArray, List.set_cons_zero, List.set_cons_succ])
          refine wpAnyH_take (i := 7) (oi := ({ dst := some 19, op := .indexAddr 22 (.tmp 17) (.tmp 18), type := 0, pos := "ref.go:68", after := #[⟨5, .data⟩, ⟨6, .data⟩, ⟨4, .guard⟩], guard := some (4, true) } : Go.Oper)) (v := ?v29) rfl (by kernel_rfl) (by kernel_rfl) (by kernel_rfl) (fun _ _ _ h => h) (Or.inl ⟨by rfl, ?hy29⟩) (by assumption) ?rest29
          case hy29 => (intro w hSw; (try dsimp only at hSw); go_simp; (try with_reducible rfl))
          (try simp only [Act.put, List.getElem_toArray, List.getElem_cons_zero, List.getElem_cons_succ, List.setIfInBounds_toArray, List.set_cons_zero, List.set_cons_succ])
          refine wpAnyH_take (i := 8) (oi := ({ dst := some 20, op := .load 40 (.tmp 19), type := 40, pos := "ref.go:68", after := #[⟨7, .data⟩, ⟨4, .guard⟩], guard := some (4, true) } : Go.Oper)) (v := ?v30) rfl (by kernel_rfl) (by kernel_rfl) (by kernel_rfl) (fun _ _ _ h => h) (Or.inl ⟨by rfl, ?hy30⟩) (by assumption) ?rest30
          case hy30 => (intro w hSw; (try dsimp only at hSw); go_simp; (try with_reducible rfl))
          (try simp only [Act.put, List.getElem_toArray, List.getElem_cons_zero, List.getElem_cons_succ, List.setIfInBounds_toArray, List.set_cons_zero, List.set_cons_succ])
          refine wpAnyH_take (i := 9) (oi := ({ dst := some 21, op := .move (.tmp 3), type := 22, pos := "ref.go:68", after := #[⟨4, .guard⟩], guard := some (4, true) } : Go.Oper)) (v := ?v31) rfl (by kernel_rfl) (by kernel_rfl) (by kernel_rfl) (fun _ _ _ h => h) (Or.inl ⟨by rfl, ?hy31⟩) (by assumption) ?rest31
          case hy31 => (intro w hSw; (try dsimp only at hSw); go_simp; (try with_reducible rfl))
          (try simp only [Act.put, List.getElem_toArray, List.getElem_cons_zero, List.getElem_cons_succ, List.setIfInBounds_toArray, List.set_cons_zero, List.set_cons_succ])
          refine wpAnyH_take (i := 10) (oi := ({ dst := some 22, op := .move (.tmp 5), type := 3, pos := "ref.go:68", after := #[⟨4, .guard⟩], guard := some (4, true) } : Go.Oper)) (v := ?v32) rfl (by kernel_rfl) (by kernel_rfl) (by kernel_rfl) (fun _ _ _ h => h) (Or.inl ⟨by rfl, ?hy32⟩) (by assumption) ?rest32
          case hy32 => (intro w hSw; (try dsimp only at hSw); go_simp; (try with_reducible rfl))
          (try simp only [Act.put, List.getElem_toArray, List.getElem_cons_zero, List.getElem_cons_succ, List.setIfInBounds_toArray, List.set_cons_zero, List.set_cons_succ])
          refine wpAnyH_take (i := 11) (oi := ({ dst := some 23, op := .indexAddr 22 (.tmp 21) (.tmp 22), type := 0, pos := "ref.go:68", after := #[⟨9, .data⟩, ⟨10, .data⟩, ⟨4, .guard⟩], guard := some (4, true) } : Go.Oper)) (v := ?v33) rfl (by kernel_rfl) (by kernel_rfl) (by kernel_rfl) (fun _ _ _ h => h) (Or.inl ⟨by rfl, ?hy33⟩) (by assumption) ?rest33
          case hy33 => (intro w hSw; (try dsimp only at hSw); go_simp; (try with_reducible rfl))
          (try simp only [Act.put, List.getElem_toArray, List.getElem_cons_zero, List.getElem_cons_succ, List.setIfInBounds_toArray, List.set_cons_zero, List.set_cons_succ])
          refine wpAnyH_take (i := 12) (oi := ({ dst := some 24, op := .load 40 (.tmp 23), type := 40, pos := "ref.go:68", after := #[⟨11, .data⟩, ⟨4, .guard⟩], guard := some (4, true) } : Go.Oper)) (v := ?v34) rfl (by kernel_rfl) (by kernel_rfl) (by kernel_rfl) (fun _ _ _ h => h) (Or.inl ⟨by rfl, ?hy34⟩) (by assumption) ?rest34
          case hy34 => (intro w hSw; (try dsimp only at hSw); go_simp; (try with_reducible rfl))
          (try simp only [Act.put, List.getElem_toArray, List.getElem_cons_zero, List.getElem_cons_succ, List.setIfInBounds_toArray, List.set_cons_zero, List.set_cons_succ])
          refine wpAnyH_ready (rs := [13]) (by kernel_rfl) (by simp) ?_
          refine AllReadyH.cons (o := ({ dst := some 25, op := .call { callee := .value (.func 22), args := #[.tmp 20, .tmp 24], argTypes := #[40, 40] }, type := 4, pos := "ref.go:68", after := #[⟨8, .data⟩, ⟨12, .data⟩, ⟨4, .chain⟩, ⟨4, .guard⟩], guard := some (4, true) } : Go.Oper)) rfl (fun K hK => ?_) AllReadyH.nil
          go_simp
          (go_at_call 22; refine (rahead_any _ _ t y _ (HT.out.ext (HEW.out.trans (by with_reducible (repeat (first | exact Ext.rfl_ _ | assumption | refine Ext.drew ?_ | refine Ext.drewN ?_ _ | refine Ext.alloc ?_ _ | refine Ext.trans ?_ (by assumption)))))) (HYR.out.ext (by with_reducible (repeat (first | exact Ext.rfl_ _ | assumption | refine Ext.drew ?_ | refine Ext.drewN ?_ _ | refine Ext.alloc ?_ _ | refine Ext.trans ?_ (by assumption)))))).mono ?_; rintro e w4 ⟨rfl, hw4⟩; rw [HA.out])
          (try (go_wp2_with fail))
          refine hK.out _ _ (by (try dsimp only); exact ⟨HS.out _ (by with_reducible (repeat (first | exact Ext.rfl_ _ | assumption | refine Ext.drew ?_ | refine Ext.drewN ?_ _ | refine Ext.alloc ?_ _ | refine Ext.trans ?_ (by assumption)))), HS2.out _ (by with_reducible (repeat (first | exact Ext.rfl_ _ | assumption | refine Ext.drew ?_ | refine Ext.drewN ?_ _ | refine Ext.alloc ?_ _ | refine Ext.trans ?_ (by assumption))))⟩) (fun hHeld => ?_)
          clear hK K
          (try simp only [Act.put, List.getElem_toArray, List.getElem_cons_zero, List.getElem_cons_succ, List.setIfInBounds_toArray, List.set_cons_zero, List.set_cons_succ])
          refine wpAnyH_take (i := 14) (oi := ({ dst := some 26, op := .unOp .not 4 (.tmp 25), type := 4, pos := "ref.go:68", after := #[⟨13, .data⟩, ⟨4, .guard⟩], guard := some (4, true) } : Go.Oper)) (v := ?v35) rfl (by kernel_rfl) (by kernel_rfl) (by kernel_rfl) (fun _ _ _ h => h) (Or.inl ⟨by rfl, ?hy35⟩) (by assumption) ?rest35
          case hy35 => (intro w hSw; (try dsimp only at hSw); go_simp; (try with_reducible rfl))
          (try simp only [Act.put, List.getElem_toArray, List.getElem_cons_zero, List.getElem_cons_succ, List.setIfInBounds_toArray, List.set_cons_zero, List.set_cons_succ])
          refine wpAnyH_take (i := 15) (oi := ({ dst := some 27, op := .pick (.tmp 16) (.tmp 26) (.const (.bool false)), type := 4, pos := "ref.go:68", after := #[⟨4, .data⟩, ⟨14, .data⟩], guard := none } : Go.Oper)) (v := ?v36) rfl (by kernel_rfl) (by kernel_rfl) (by kernel_rfl) (fun _ _ _ h => h) (Or.inl ⟨by rfl, ?hy36⟩) (by assumption) ?rest36
          case hy36 => (intro w hSw; (try dsimp only at hSw); go_simp; (try with_reducible rfl))
          (try simp only [Act.put, List.getElem_toArray, List.getElem_cons_zero, List.getElem_cons_succ, List.setIfInBounds_toArray, List.set_cons_zero, List.set_cons_succ])
          refine wpAnyH_done (by kernel_rfl) ?_ _
          have HG2 : Hid (∀ j o, j < k + 1 → ys[j]? = some o → aheadT t o = false) := Lib.hid (fun j u hj hu => by
            by_cases e : j = k
            · subst e
              rw [HY.out] at hu
              cases hu
              exact HA.out
            · exact HG.out j u (by omega) hu)
          go_wp2
          go_roundw
          case rel => exact ⟨k + 1, by simp, by omega, (by with_reducible (repeat (first | exact Ext.rfl_ _ | assumption | refine Ext.drew ?_ | refine Ext.drewN ?_ _ | refine Ext.alloc ?_ _ | refine Ext.trans ?_ (by assumption)))), HG2⟩
          case measure => simp [intOf]; omega
    case rest =>
      obtain ⟨k, rfl, hk, hxk, HG, HG2⟩ := hcut
      have HIN : Hid (srtT (ts.take (i + 1)) = ys.take k ++ t :: ys.drop k) := Lib.hid (by rw [HNX.out]; exact insT_at (by omega) HG.out (fun h => HG2.out (by omega)))
      have HTK := Lib.hid (((HRA.out.ext hxk).mono (Nat.le_trans hb2 hxk.size)).take k hk)
      have HSW := Lib.hid (show ∀ W, Ext wc W → (W.cell? ⟨b, o + i * 5, none⟩ = some (.int .i64 t.num) ∧ W.cell? ⟨b, o + i * 5 + 1, none⟩ = some (.int .i64 t.lvl) ∧ W.cell? ⟨b, o + i * 5 + 2, none⟩ = some (.slice A1 n1 c1) ∧ W.cell? ⟨b, o + i * 5 + 3, none⟩ = some (.slice A2 n2 c2) ∧ W.cell? ⟨b, o + i * 5 + 4, none⟩ = some (.int .i64 t.size)) from fun W hW => HS.out W (hxk.trans hW))
      have HEX := Lib.hid (show ∀ W, Ext wc W → ElT W wc.heap.size ⟨A1, n1, c1, A2, n2, c2⟩ t from fun W hW => rd_eltT HT.out (HEW.out.trans (hxk.trans hW)) (Nat.le_trans HEW.out.size hxk.size))
      have HKX := Lib.hid hxk
      clear hxk HS HEL
      have hil : i ≤ 1000000 := by omega
      rcases hAy with rfl | ⟨gy, rfl⟩
      · have i0 : i = 0 := by
          rcases Nat.eq_zero_or_pos i with h | h
          · exact h
          · obtain ⟨_, _, e, _⟩ := HRY.out.2.2 h
            cases e
        have HDK : Hid (RdTa wc wc.heap.size none (i - k) (ys.drop k)) := Lib.hid (by
          have e1 : i - k = 0 := by omega
          have e2 : ys.drop k = [] := List.drop_eq_nil_of_le (by omega)
          rw [e1, e2]
          exact RdTa.nil _ _ _)
        clear i0
        have hbnd : k ≤ cy := by omega
        go_wp2
        refine wp_region_held_drew (S := (fun W => W.cell? ⟨b, o + i * 5, none⟩ = some (.int .i64 t.num) ∧ W.cell? ⟨b, o + i * 5 + 1, none⟩ = some (.int .i64 t.lvl) ∧ W.cell? ⟨b, o + i * 5 + 2, none⟩ = some (.slice A1 n1 c1) ∧ W.cell? ⟨b, o + i * 5 + 3, none⟩ = some (.slice A2 n2 c2) ∧ W.cell? ⟨b, o + i * 5 + 4, none⟩ = some (.int .i64 t.size))) (by kernel_rfl) (by (try dsimp only); exact HSW.out _ (by with_reducible (repeat (first | exact Ext.rfl_ _ | assumption | refine Ext.drew ?_ | refine Ext.drewN ?_ _ | refine Ext.alloc ?_ _ | refine Ext.trans ?_ (by assumption))))) (fun hHeld => ?_)
        refine wpAnyH_take (i := 0) (oi := ({ dst := some 30, op := .move (.tmp 3), type := 22, pos := "ref.go:71", after := #[], guard := none } : Go.Oper)) (v := ?v37) rfl (by kernel_rfl) (by kernel_rfl) (by kernel_rfl) (fun _ _ _ h => h) (Or.inl ⟨by rfl, ?hy37⟩) (by assumption) ?rest37
        case hy37 => (intro w hSw; (try dsimp only at hSw); go_simp; (try with_reducible rfl))
        (try simp only [Act.put, List.getElem_toArray, List.getElem_cons_zero, List.getElem_cons_succ, List.setIfInBounds_toArray, List.set_cons_zero, List.set_cons_succ])
        refine wpAnyH_take (i := 1) (oi := ({ dst := some 31, op := .move (.tmp 5), type := 3, pos := "ref.go:71", after := #[], guard := none } : Go.Oper)) (v := ?v38) rfl (by kernel_rfl) (by kernel_rfl) (by kernel_rfl) (fun _ _ _ h => h) (Or.inl ⟨by rfl, ?hy38⟩) (by assumption) ?rest38
        case hy38 => (intro w hSw; (try dsimp only at hSw); go_simp; (try with_reducible rfl))
        (try simp only [Act.put, List.getElem_toArray, List.getElem_cons_zero, List.getElem_cons_succ, List.setIfInBounds_toArray, List.set_cons_zero, List.set_cons_succ])
        refine wpAnyH_take (i := 2) (oi := ({ dst := some 32, op := .slice 22 (.tmp 30) none (some (.tmp 31)) none, type := 22, pos := "ref.go:71", after := #[⟨0, .data⟩, ⟨1, .data⟩], guard := none } : Go.Oper)) (v := ?v39) rfl (by kernel_rfl) (by kernel_rfl) (by kernel_rfl) (fun _ _ _ h => h) (Or.inl ⟨by rfl, ?hy39⟩) (by assumption) ?rest39
        case hy39 => (intro w hSw; (try dsimp only at hSw); go_simp; (try with_reducible rfl))
        (try simp only [Act.put, List.getElem_toArray, List.getElem_cons_zero, List.getElem_cons_succ, List.setIfInBounds_toArray, List.set_cons_zero, List.set_cons_succ])
        refine wpAnyH_take (i := 4) (oi := ({ dst := some 34, op := .move (.tmp 0), type := 22, pos := "ref.go:71", after := #[], guard := none } : Go.Oper)) (v := ?v40) rfl (by kernel_rfl) (by kernel_rfl) (by kernel_rfl) (fun _ _ _ h => h) (Or.inl ⟨by rfl, ?hy40⟩) (by assumption) ?rest40
        case hy40 => (intro w hSw; (try dsimp only at hSw); go_simp; (try with_reducible rfl))
        (try simp only [Act.put, List.getElem_toArray, List.getElem_cons_zero, List.getElem_cons_succ, List.setIfInBounds_toArray, List.set_cons_zero, List.set_cons_succ])
        refine wpAnyH_take (i := 5) (oi := ({ dst := some 35, op := .move (.tmp 4), type := 3, pos := "ref.go:71", after := #[], guard := none } : Go.Oper)) (v := ?v41) rfl (by kernel_rfl) (by kernel_rfl) (by kernel_rfl) (fun _ _ _ h => h) (Or.inl ⟨by rfl, ?hy41⟩) (by assumption) ?rest41
        case hy41 => (intro w hSw; (try dsimp only at hSw); go_simp; (try with_reducible rfl))
        (try simp only [Act.put, List.getElem_toArray, List.getElem_cons_zero, List.getElem_cons_succ, List.setIfInBounds_toArray, List.set_cons_zero, List.set_cons_succ])
        refine wpAnyH_take (i := 6) (oi := ({ dst := some 36, op := .indexAddr 22 (.tmp 34) (.tmp 35), type := 0, pos := "ref.go:71", after := #[⟨4, .data⟩, ⟨5, .data⟩], guard := none } : Go.Oper)) (v := ?v42) rfl (by kernel_rfl) (by kernel_rfl) (by kernel_rfl) (fun _ _ _ h => h) (Or.inl ⟨by rfl, ?hy42⟩) (by assumption) ?rest42
        case hy42 => (intro w hSw; (try dsimp only at hSw); go_simp; (try with_reducible rfl))
        (try simp only [Act.put, List.getElem_toArray, List.getElem_cons_zero, List.getElem_cons_succ, List.setIfInBounds_toArray, List.set_cons_zero, List.set_cons_succ])
        refine wpAnyH_take (i := 7) (oi := ({ dst := some 37, op := .load 40 (.tmp 36), type := 40, pos := "ref.go:71", after := #[⟨6, .data⟩], guard := none } : Go.Oper)) (v := ?v43) rfl (by kernel_rfl) (by kernel_rfl) (by kernel_rfl) (fun _ _ _ h => h) (Or.inl ⟨by rfl, ?hy43⟩) (by assumption) ?rest43
        case hy43 => (intro w hSw; (try dsimp only at hSw); go_simp; (try with_reducible rfl))
        (try simp only [Act.put, List.getElem_toArray, List.getElem_cons_zero, List.getElem_cons_succ, List.setIfInBounds_toArray, List.set_cons_zero, List.set_cons_succ])
        refine wpAnyH_take (i := 10) (oi := ({ dst := some 40, op := .move (.tmp 3), type := 22, pos := "ref.go:71", after := #[], guard := none } : Go.Oper)) (v := ?v44) rfl (by kernel_rfl) (by kernel_rfl) (by kernel_rfl) (fun _ _ _ h => h) (Or.inl ⟨by rfl, ?hy44⟩) (by assumption) ?rest44
        case hy44 => (intro w hSw; (try dsimp only at hSw); go_simp; (try with_reducible rfl))
        (try simp only [Act.put, List.getElem_toArray, List.getElem_cons_zero, List.getElem_cons_succ, List.setIfInBounds_toArray, List.set_cons_zero, List.set_cons_succ])
        refine wpAnyH_take (i := 11) (oi := ({ dst := some 41, op := .move (.tmp 5), type := 3, pos := "ref.go:71", after := #[], guard := none } : Go.Oper)) (v := ?v45) rfl (by kernel_rfl) (by kernel_rfl) (by kernel_rfl) (fun _ _ _ h => h) (Or.inl ⟨by rfl, ?hy45⟩) (by assumption) ?rest45
        case hy45 => (intro w hSw; (try dsimp only at hSw); go_simp; (try with_reducible rfl))
        (try simp only [Act.put, List.getElem_toArray, List.getElem_cons_zero, List.getElem_cons_succ, List.setIfInBounds_toArray, List.set_cons_zero, List.set_cons_succ])
        refine wpAnyH_take (i := 12) (oi := ({ dst := some 42, op := .slice 22 (.tmp 40) (some (.tmp 41)) none none, type := 22, pos := "ref.go:71", after := #[⟨10, .data⟩, ⟨11, .data⟩], guard := none } : Go.Oper)) (v := ?v46) rfl (by kernel_rfl) (by kernel_rfl) (by kernel_rfl) (fun _ _ _ h => h) (Or.inl ⟨by rfl, ?hy46⟩) (by assumption) ?rest46
        case hy46 => (intro w hSw; (try dsimp only at hSw); go_simp; (try with_reducible rfl))
        (try simp only [Act.put, List.getElem_toArray, List.getElem_cons_zero, List.getElem_cons_succ, List.setIfInBounds_toArray, List.set_cons_zero, List.set_cons_succ])
        refine wpAnyH_ready (rs := [3, 8]) (by kernel_rfl) (by simp) ?_
        refine AllReadyH.cons (o := ({ dst := some 33, op := .call { callee := .builtin .append, args := #[.const (.slice none 0 0), .tmp 32], argTypes := #[22, 22] }, type := 22, pos := "ref.go:71", after := #[⟨2, .data⟩], guard := none } : Go.Oper)) rfl (fun K hK => ?one47) ?more47
        case' one47 =>
          refine step_appT rfl _ _ rfl wc.heap.size (.slice none 0 0) [] rfl (OwnT.nil _ _) none k cy (ys.take k) rfl (HTK.out.ext (by with_reducible (repeat (first | exact Ext.rfl_ _ | assumption | refine Ext.drew ?_ | refine Ext.drewN ?_ _ | refine Ext.alloc ?_ _ | refine Ext.trans ?_ (by assumption))))) (by rw [List.length_take]; unfold B40; simp; omega) (Ext.size (show Ext wc _ from (by with_reducible (repeat (first | exact Ext.rfl_ _ | assumption | refine Ext.drew ?_ | refine Ext.drewN ?_ _ | refine Ext.alloc ?_ _ | refine Ext.trans ?_ (by assumption)))))) ?_; intro v5 w5 h5 g5 _; rw [List.nil_append] at h5; have Y5 := ext_none g5; clear g5; have HL5 : Hid ((ys.take k).length = k) := Lib.hid (by rw [List.length_take, HYL.out]; omega); obtain ⟨A5, n5, c5, rfl, hc5, _⟩ := h5.formN (by rw [HL5.out]; unfold B47; omega); have H5 := Lib.hid h5; clear h5
          refine hK.out _ _ (by (try dsimp only); exact HSW.out _ (by with_reducible (repeat (first | exact Ext.rfl_ _ | assumption | refine Ext.drew ?_ | refine Ext.drewN ?_ _ | refine Ext.alloc ?_ _ | refine Ext.trans ?_ (by assumption))))) (fun hHeld => ?_)
          clear hK K
          (try simp only [Act.put, List.getElem_toArray, List.getElem_cons_zero, List.getElem_cons_succ, List.setIfInBounds_toArray, List.set_cons_zero, List.set_cons_succ])
          refine wpAnyH_ready (rs := [8]) (by kernel_rfl) (by simp) ?_
          refine AllReadyH.cons (o := ({ dst := some 38, op := .buildSlice 22 1 #[(0, .tmp 37)], type := 22, pos := "ref.go:71", after := #[⟨7, .data⟩], guard := none } : Go.Oper)) rfl (fun K hK => ?_) AllReadyH.nil
          go_simp; (first | have HX1 := Lib.hid (RdTa.one 40 (HEX.out w5 (show Ext wc w5 from (by with_reducible (repeat (first | exact Ext.rfl_ _ | assumption | refine Ext.drew ?_ | refine Ext.drewN ?_ _ | refine Ext.alloc ?_ _ | refine Ext.trans ?_ (by assumption))))))) | have HX1 := Lib.hid (RdTa.one 40 (HEX.out wc (Ext.rfl_ wc))))
          refine hK.out _ _ (by (try dsimp only); exact HSW.out _ (by with_reducible (repeat (first | exact Ext.rfl_ _ | assumption | refine Ext.drew ?_ | refine Ext.drewN ?_ _ | refine Ext.alloc ?_ _ | refine Ext.trans ?_ (by assumption))))) (fun hHeld => ?_)
          clear hK K
          (try simp only [Act.put, List.getElem_toArray, List.getElem_cons_zero, List.getElem_cons_succ, List.setIfInBounds_toArray, List.set_cons_zero, List.set_cons_succ])
          refine wpAnyH_ready (rs := [9]) (by kernel_rfl) (by simp) ?_
          refine AllReadyH.cons (o := ({ dst := some 39, op := .call { callee := .builtin .append, args := #[.tmp 33, .tmp 38], argTypes := #[22, 22] }, type := 22, pos := "ref.go:71", after := #[⟨3, .data⟩, ⟨8, .data⟩, ⟨3, .chain⟩], guard := none } : Go.Oper)) rfl (fun K hK => ?_) AllReadyH.nil
          refine step_appT rfl _ _ rfl wc.heap.size _ (ys.take k) rfl (H5.out.ext (by with_reducible (repeat (first | exact Ext.rfl_ _ | assumption | refine Ext.drew ?_ | refine Ext.drewN ?_ _ | refine Ext.alloc ?_ _ | refine Ext.trans ?_ (by assumption))))) _ 1 1 [t] rfl (HX1.out.ext (by with_reducible (repeat (first | exact Ext.rfl_ _ | assumption | refine Ext.drew ?_ | refine Ext.drewN ?_ _ | refine Ext.alloc ?_ _ | refine Ext.trans ?_ (by assumption))))) (by rw [HL5.out]; unfold B40; simp; omega) (Ext.size (show Ext wc _ from (by with_reducible (repeat (first | exact Ext.rfl_ _ | assumption | refine Ext.drew ?_ | refine Ext.drewN ?_ _ | refine Ext.alloc ?_ _ | refine Ext.trans ?_ (by assumption)))))) ?_; intro v6 w6 h6 g6 _; have X6 : Ext wc w6 := Ext.growT (show Ext wc _ from (by with_reducible (repeat (first | exact Ext.rfl_ _ | assumption | refine Ext.drew ?_ | refine Ext.drewN ?_ _ | refine Ext.alloc ?_ _ | refine Ext.trans ?_ (by assumption))))) g6 (H5.out.ext (by with_reducible (repeat (first | exact Ext.rfl_ _ | assumption | refine Ext.drew ?_ | refine Ext.drewN ?_ _ | refine Ext.alloc ?_ _ | refine Ext.trans ?_ (by assumption))))) (Nat.le_refl _); clear g6; have HL6 : Hid ((ys.take k ++ [t]).length = k + 1) := Lib.hid (by rw [List.length_append, HL5.out]; rfl); obtain ⟨A6, n6, c6, rfl, hc6, _⟩ := h6.formN (by rw [HL6.out]; unfold B47; omega); have H6 := Lib.hid h6; clear h6
          refine hK.out _ _ (by (try dsimp only); exact HSW.out _ (by with_reducible (repeat (first | exact Ext.rfl_ _ | assumption | refine Ext.drew ?_ | refine Ext.drewN ?_ _ | refine Ext.alloc ?_ _ | refine Ext.trans ?_ (by assumption))))) (fun hHeld => ?_)
          clear hK K
          (try simp only [Act.put, List.getElem_toArray, List.getElem_cons_zero, List.getElem_cons_succ, List.setIfInBounds_toArray, List.set_cons_zero, List.set_cons_succ])
          refine wpAnyH_ready (rs := [13]) (by kernel_rfl) (by simp) ?_
          refine AllReadyH.cons (o := ({ dst := some 43, op := .call { callee := .builtin .append, args := #[.tmp 39, .tmp 42], argTypes := #[22, 22] }, type := 22, pos := "ref.go:71", after := #[⟨9, .data⟩, ⟨12, .data⟩, ⟨9, .chain⟩], guard := none } : Go.Oper)) rfl (fun K hK => ?_) AllReadyH.nil
          refine step_appT rfl _ _ rfl wc.heap.size _ (ys.take k ++ [t]) rfl (H6.out.ext (by with_reducible (repeat (first | exact Ext.rfl_ _ | assumption | refine Ext.drew ?_ | refine Ext.drewN ?_ _ | refine Ext.alloc ?_ _ | refine Ext.trans ?_ (by assumption))))) none (i - k) (cy - k) (ys.drop k) rfl (HDK.out.ext (by with_reducible (repeat (first | exact Ext.rfl_ _ | assumption | refine Ext.drew ?_ | refine Ext.drewN ?_ _ | refine Ext.alloc ?_ _ | refine Ext.trans ?_ (by assumption))))) (by rw [HL6.out, List.length_drop]; unfold B40; omega) (Ext.size (show Ext wc _ from (by with_reducible (repeat (first | exact Ext.rfl_ _ | assumption | refine Ext.drew ?_ | refine Ext.drewN ?_ _ | refine Ext.alloc ?_ _ | refine Ext.trans ?_ (by assumption)))))) ?_; intro v7 w7 h7 g7 _; have X7 : Ext wc w7 := Ext.growT (show Ext wc _ from (by with_reducible (repeat (first | exact Ext.rfl_ _ | assumption | refine Ext.drew ?_ | refine Ext.drewN ?_ _ | refine Ext.alloc ?_ _ | refine Ext.trans ?_ (by assumption))))) g7 (H6.out.ext (by with_reducible (repeat (first | exact Ext.rfl_ _ | assumption | refine Ext.drew ?_ | refine Ext.drewN ?_ _ | refine Ext.alloc ?_ _ | refine Ext.trans ?_ (by assumption))))) (Nat.le_refl _); have H7 := Lib.hid h7; clear g7 h7
          refine hK.out _ _ (by (try dsimp only); exact HSW.out _ (by with_reducible (repeat (first | exact Ext.rfl_ _ | assumption | refine Ext.drew ?_ | refine Ext.drewN ?_ _ | refine Ext.alloc ?_ _ | refine Ext.trans ?_ (by assumption))))) (fun hHeld => ?_)
          clear hK K
          (try simp only [Act.put, List.getElem_toArray, List.getElem_cons_zero, List.getElem_cons_succ, List.setIfInBounds_toArray, List.set_cons_zero, List.set_cons_succ])
          refine wpAnyH_take (i := 14) (oi := ({ dst := some 3, op := .assign (.tmp 43), type := 22, pos := "ref.go:71", after := #[⟨13, .data⟩, ⟨13, .chain⟩, ⟨0, .phase⟩, ⟨1, .phase⟩, ⟨2, .phase⟩, ⟨3, .phase⟩, ⟨4, .phase⟩, ⟨5, .phase⟩, ⟨6, .phase⟩, ⟨7, .phase⟩, ⟨8, .phase⟩, ⟨9, .phase⟩, ⟨10, .phase⟩, ⟨11, .phase⟩, ⟨12, .phase⟩, ⟨13, .phase⟩], guard := none } : Go.Oper)) (v := ?v48) rfl (by kernel_rfl) (by kernel_rfl) (by kernel_rfl) (fun _ _ _ h => h) (Or.inl ⟨by rfl, ?hy48⟩) (by assumption) ?rest48
          case hy48 => (intro w hSw; (try dsimp only at hSw); go_simp; (try with_reducible rfl))
          (try simp only [Act.put, List.getElem_toArray, List.getElem_cons_zero, List.getElem_cons_succ, List.setIfInBounds_toArray, List.set_cons_zero, List.set_cons_succ])
          refine wpAnyH_done (by kernel_rfl) ?_ _
        case' more47 =>
          refine AllReadyH.cons (o := ({ dst := some 38, op := .buildSlice 22 1 #[(0, .tmp 37)], type := 22, pos := "ref.go:71", after := #[⟨7, .data⟩], guard := none } : Go.Oper)) rfl (fun K hK => ?_) AllReadyH.nil
          go_simp; (first | have HX1 := Lib.hid (RdTa.one 40 (HEX.out w5 (show Ext wc w5 from (by with_reducible (repeat (first | exact Ext.rfl_ _ | assumption | refine Ext.drew ?_ | refine Ext.drewN ?_ _ | refine Ext.alloc ?_ _ | refine Ext.trans ?_ (by assumption))))))) | have HX1 := Lib.hid (RdTa.one 40 (HEX.out wc (Ext.rfl_ wc))))
          refine hK.out _ _ (by (try dsimp only); exact HSW.out _ (by with_reducible (repeat (first | exact Ext.rfl_ _ | assumption | refine Ext.drew ?_ | refine Ext.drewN ?_ _ | refine Ext.alloc ?_ _ | refine Ext.trans ?_ (by assumption))))) (fun hHeld => ?_)
          clear hK K
          (try simp only [Act.put, List.getElem_toArray, List.getElem_cons_zero, List.getElem_cons_succ, List.setIfInBounds_toArray, List.set_cons_zero, List.set_cons_succ])
          refine wpAnyH_ready (rs := [3]) (by kernel_rfl) (by simp) ?_
          refine AllReadyH.cons (o := ({ dst := some 33, op := .call { callee := .builtin .append, args := #[.const (.slice none 0 0), .tmp 32], argTypes := #[22, 22] }, type := 22, pos := "ref.go:71", after := #[⟨2, .data⟩], guard := none } : Go.Oper)) rfl (fun K hK => ?_) AllReadyH.nil
          refine step_appT rfl _ _ rfl wc.heap.size (.slice none 0 0) [] rfl (OwnT.nil _ _) none k cy (ys.take k) rfl (HTK.out.ext (by with_reducible (repeat (first | exact Ext.rfl_ _ | assumption | refine Ext.drew ?_ | refine Ext.drewN ?_ _ | refine Ext.alloc ?_ _ | refine Ext.trans ?_ (by assumption))))) (by rw [List.length_take]; unfold B40; simp; omega) (Ext.size (show Ext wc _ from (by with_reducible (repeat (first | exact Ext.rfl_ _ | assumption | refine Ext.drew ?_ | refine Ext.drewN ?_ _ | refine Ext.alloc ?_ _ | refine Ext.trans ?_ (by assumption)))))) ?_; intro v5 w5 h5 g5 _; rw [List.nil_append] at h5; have Y5 := ext_none g5; clear g5; have HL5 : Hid ((ys.take k).length = k) := Lib.hid (by rw [List.length_take, HYL.out]; omega); obtain ⟨A5, n5, c5, rfl, hc5, _⟩ := h5.formN (by rw [HL5.out]; unfold B47; omega); have H5 := Lib.hid h5; clear h5
          refine hK.out _ _ (by (try dsimp only); exact HSW.out _ (by with_reducible (repeat (first | exact Ext.rfl_ _ | assumption | refine Ext.drew ?_ | refine Ext.drewN ?_ _ | refine Ext.alloc ?_ _ | refine Ext.trans ?_ (by assumption))))) (fun hHeld => ?_)
          clear hK K
          (try simp only [Act.put, List.getElem_toArray, List.getElem_cons_zero, List.getElem_cons_succ, List.setIfInBounds_toArray, List.set_cons_zero, List.set_cons_succ])
          refine wpAnyH_ready (rs := [9]) (by kernel_rfl) (by simp) ?_
          refine AllReadyH.cons (o := ({ dst := some 39, op := .call { callee := .builtin .append, args := #[.tmp 33, .tmp 38], argTypes := #[22, 22] }, type := 22, pos := "ref.go:71", after := #[⟨3, .data⟩, ⟨8, .data⟩, ⟨3, .chain⟩], guard := none } : Go.Oper)) rfl (fun K hK => ?_) AllReadyH.nil
          refine step_appT rfl _ _ rfl wc.heap.size _ (ys.take k) rfl (H5.out.ext (by with_reducible (repeat (first | exact Ext.rfl_ _ | assumption | refine Ext.drew ?_ | refine Ext.drewN ?_ _ | refine Ext.alloc ?_ _ | refine Ext.trans ?_ (by assumption))))) _ 1 1 [t] rfl (HX1.out.ext (by with_reducible (repeat (first | exact Ext.rfl_ _ | assumption | refine Ext.drew ?_ | refine Ext.drewN ?_ _ | refine Ext.alloc ?_ _ | refine Ext.trans ?_ (by assumption))))) (by rw [HL5.out]; unfold B40; simp; omega) (Ext.size (show Ext wc _ from (by with_reducible (repeat (first | exact Ext.rfl_ _ | assumption | refine Ext.drew ?_ | refine Ext.drewN ?_ _ | refine Ext.alloc ?_ _ | refine Ext.trans ?_ (by assumption)))))) ?_; intro v6 w6 h6 g6 _; have X6 : Ext wc w6 := Ext.growT (show Ext wc _ from (by with_reducible (repeat (first | exact Ext.rfl_ _ | assumption | refine Ext.drew ?_ | refine Ext.drewN ?_ _ | refine Ext.alloc ?_ _ | refine Ext.trans ?_ (by assumption))))) g6 (H5.out.ext (by with_reducible (repeat (first | exact Ext.rfl_ _ | assumption | refine Ext.drew ?_ | refine Ext.drewN ?_ _ | refine Ext.alloc ?_ _ | refine Ext.trans ?_ (by assumption))))) (Nat.le_refl _); clear g6; have HL6 : Hid ((ys.take k ++ [t]).length = k + 1) := Lib.hid (by rw [List.length_append, HL5.out]; rfl); obtain ⟨A6, n6, c6, rfl, hc6, _⟩ := h6.formN (by rw [HL6.out]; unfold B47; omega); have H6 := Lib.hid h6; clear h6
          refine hK.out _ _ (by (try dsimp only); exact HSW.out _ (by with_reducible (repeat (first | exact Ext.rfl_ _ | assumption | refine Ext.drew ?_ | refine Ext.drewN ?_ _ | refine Ext.alloc ?_ _ | refine Ext.trans ?_ (by assumption))))) (fun hHeld => ?_)
          clear hK K
          (try simp only [Act.put, List.getElem_toArray, List.getElem_cons_zero, List.getElem_cons_succ, List.setIfInBounds_toArray, List.set_cons_zero, List.set_cons_succ])
          refine wpAnyH_ready (rs := [13]) (by kernel_rfl) (by simp) ?_
          refine AllReadyH.cons (o := ({ dst := some 43, op := .call { callee := .builtin .append, args := #[.tmp 39, .tmp 42], argTypes := #[22, 22] }, type := 22, pos := "ref.go:71", after := #[⟨9, .data⟩, ⟨12, .data⟩, ⟨9, .chain⟩], guard := none } : Go.Oper)) rfl (fun K hK => ?_) AllReadyH.nil
          refine step_appT rfl _ _ rfl wc.heap.size _ (ys.take k ++ [t]) rfl (H6.out.ext (by with_reducible (repeat (first | exact Ext.rfl_ _ | assumption | refine Ext.drew ?_ | refine Ext.drewN ?_ _ | refine Ext.alloc ?_ _ | refine Ext.trans ?_ (by assumption))))) none (i - k) (cy - k) (ys.drop k) rfl (HDK.out.ext (by with_reducible (repeat (first | exact Ext.rfl_ _ | assumption | refine Ext.drew ?_ | refine Ext.drewN ?_ _ | refine Ext.alloc ?_ _ | refine Ext.trans ?_ (by assumption))))) (by rw [HL6.out, List.length_drop]; unfold B40; omega) (Ext.size (show Ext wc _ from (by with_reducible (repeat (first | exact Ext.rfl_ _ | assumption | refine Ext.drew ?_ | refine Ext.drewN ?_ _ | refine Ext.alloc ?_ _ | refine Ext.trans ?_ (by assumption)))))) ?_; intro v7 w7 h7 g7 _; have X7 : Ext wc w7 := Ext.growT (show Ext wc _ from (by with_reducible (repeat (first | exact Ext.rfl_ _ | assumption | refine Ext.drew ?_ | refine Ext.drewN ?_ _ | refine Ext.alloc ?_ _ | refine Ext.trans ?_ (by assumption))))) g7 (H6.out.ext (by with_reducible (repeat (first | exact Ext.rfl_ _ | assumption | refine Ext.drew ?_ | refine Ext.drewN ?_ _ | refine Ext.alloc ?_ _ | refine Ext.trans ?_ (by assumption))))) (Nat.le_refl _); have H7 := Lib.hid h7; clear g7 h7
          refine hK.out _ _ (by (try dsimp only); exact HSW.out _ (by with_reducible (repeat (first | exact Ext.rfl_ _ | assumption | refine Ext.drew ?_ | refine Ext.drewN ?_ _ | refine Ext.alloc ?_ _ | refine Ext.trans ?_ (by assumption))))) (fun hHeld => ?_)
          clear hK K
          (try simp only [Act.put, List.getElem_toArray, List.getElem_cons_zero, List.getElem_cons_succ, List.setIfInBounds_toArray, List.set_cons_zero, List.set_cons_succ])
          refine wpAnyH_take (i := 14) (oi := ({ dst := some 3, op := .assign (.tmp 43), type := 22, pos := "ref.go:71", after := #[⟨13, .data⟩, ⟨13, .chain⟩, ⟨0, .phase⟩, ⟨1, .phase⟩, ⟨2, .phase⟩, ⟨3, .phase⟩, ⟨4, .phase⟩, ⟨5, .phase⟩, ⟨6, .phase⟩, ⟨7, .phase⟩, ⟨8, .phase⟩, ⟨9, .phase⟩, ⟨10, .phase⟩, ⟨11, .phase⟩, ⟨12, .phase⟩, ⟨13, .phase⟩], guard := none } : Go.Oper)) (v := ?v49) rfl (by kernel_rfl) (by kernel_rfl) (by kernel_rfl) (fun _ _ _ h => h) (Or.inl ⟨by rfl, ?hy49⟩) (by assumption) ?rest49
          case hy49 => (intro w hSw; (try dsimp only at hSw); go_simp; (try with_reducible rfl))
          (try simp only [Act.put, List.getElem_toArray, List.getElem_cons_zero, List.getElem_cons_succ, List.setIfInBounds_toArray, List.set_cons_zero, List.set_cons_succ])
          refine wpAnyH_done (by kernel_rfl) ?_ _
        all_goals
          go_wp2
          go_roundw
          case rel => exact ⟨i + 1, wc.heap.size, by simp, by omega, Nat.le_trans HEW.out.size HKX.out.size, X7.size, HEW.out.trans (HKX.out.trans X7), Lib.hid (by rw [HIN.out]; simpa using H7.out)⟩
          case measure => simp [intOf]; omega
      by_cases hkc : k < cy
      · have hne : ¬ cy = k := by omega
        have HDK : Hid (RdTa wc wc.heap.size (some ⟨gy, k * 5, none⟩) (i - k) (ys.drop k)) := Lib.hid (((HRA.out.ext HKX.out).mono (Nat.le_trans hb2 HKX.out.size)).drop k hk)
        have hbnd : k ≤ cy := by omega
        go_wp2
        refine wp_region_held_drew (S := (fun W => W.cell? ⟨b, o + i * 5, none⟩ = some (.int .i64 t.num) ∧ W.cell? ⟨b, o + i * 5 + 1, none⟩ = some (.int .i64 t.lvl) ∧ W.cell? ⟨b, o + i * 5 + 2, none⟩ = some (.slice A1 n1 c1) ∧ W.cell? ⟨b, o + i * 5 + 3, none⟩ = some (.slice A2 n2 c2) ∧ W.cell? ⟨b, o + i * 5 + 4, none⟩ = some (.int .i64 t.size))) (by kernel_rfl) (by (try dsimp only); exact HSW.out _ (by with_reducible (repeat (first | exact Ext.rfl_ _ | assumption | refine Ext.drew ?_ | refine Ext.drewN ?_ _ | refine Ext.alloc ?_ _ | refine Ext.trans ?_ (by assumption))))) (fun hHeld => ?_)
        refine wpAnyH_take (i := 0) (oi := ({ dst := some 30, op := .move (.tmp 3), type := 22, pos := "ref.go:71", after := #[], guard := none } : Go.Oper)) (v := ?v50) rfl (by kernel_rfl) (by kernel_rfl) (by kernel_rfl) (fun _ _ _ h => h) (Or.inl ⟨by rfl, ?hy50⟩) (by assumption) ?rest50
        case hy50 => (intro w hSw; (try dsimp only at hSw); go_simp; (try with_reducible rfl))
        (try simp only [Act.put, List.getElem_toArray, List.getElem_cons_zero, List.getElem_cons_succ, List.setIfInBounds_toArray, List.set_cons_zero, List.set_cons_succ])
        refine wpAnyH_take (i := 1) (oi := ({ dst := some 31, op := .move (.tmp 5), type := 3, pos := "ref.go:71", after := #[], guard := none } : Go.Oper)) (v := ?v51) rfl (by kernel_rfl) (by kernel_rfl) (by kernel_rfl) (fun _ _ _ h => h) (Or.inl ⟨by rfl, ?hy51⟩) (by assumption) ?rest51
        case hy51 => (intro w hSw; (try dsimp only at hSw); go_simp; (try with_reducible rfl))
        (try simp only [Act.put, List.getElem_toArray, List.getElem_cons_zero, List.getElem_cons_succ, List.setIfInBounds_toArray, List.set_cons_zero, List.set_cons_succ])
        refine wpAnyH_take (i := 2) (oi := ({ dst := some 32, op := .slice 22 (.tmp 30) none (some (.tmp 31)) none, type := 22, pos := "ref.go:71", after := #[⟨0, .data⟩, ⟨1, .data⟩], guard := none } : Go.Oper)) (v := ?v52) rfl (by kernel_rfl) (by kernel_rfl) (by kernel_rfl) (fun _ _ _ h => h) (Or.inl ⟨by rfl, ?hy52⟩) (by assumption) ?rest52
        case hy52 => (intro w hSw; (try dsimp only at hSw); go_simp; (try with_reducible rfl))
        (try simp only [Act.put, List.getElem_toArray, List.getElem_cons_zero, List.getElem_cons_succ, List.setIfInBounds_toArray, List.set_cons_zero, List.set_cons_succ])
        refine wpAnyH_take (i := 4) (oi := ({ dst := some 34, op := .move (.tmp 0), type := 22, pos := "ref.go:71", after := #[], guard := none } : Go.Oper)) (v := ?v53) rfl (by kernel_rfl) (by kernel_rfl) (by kernel_rfl) (fun _ _ _ h => h) (Or.inl ⟨by rfl, ?hy53⟩) (by assumption) ?rest53
        case hy53 => (intro w hSw; (try dsimp only at hSw); go_simp; (try with_reducible rfl))
        (try simp only [Act.put, List.getElem_toArray, List.getElem_cons_zero, List.getElem_cons_succ, List.setIfInBounds_toArray, List.set_cons_zero, List.set_cons_succ])
        refine wpAnyH_take (i := 5) (oi := ({ dst := some 35, op := .move (.tmp 4), type := 3, pos := "ref.go:71", after := #[], guard := none } : Go.Oper)) (v := ?v54) rfl (by kernel_rfl) (by kernel_rfl) (by kernel_rfl) (fun _ _ _ h => h) (Or.inl ⟨by rfl, ?hy54⟩) (by assumption) ?rest54
        case hy54 => (intro w hSw; (try dsimp only at hSw); go_simp; (try with_reducible rfl))
        (try simp only [Act.put, List.getElem_toArray, List.getElem_cons_zero, List.getElem_cons_succ, List.setIfInBounds_toArray, List.set_cons_zero, List.set_cons_succ])
        refine wpAnyH_take (i := 6) (oi := ({ dst := some 36, op := .indexAddr 22 (.tmp 34) (.tmp 35), type := 0, pos := "ref.go:71", after := #[⟨4, .data⟩, ⟨5, .data⟩], guard := none } : Go.Oper)) (v := ?v55) rfl (by kernel_rfl) (by kernel_rfl) (by kernel_rfl) (fun _ _ _ h => h) (Or.inl ⟨by rfl, ?hy55⟩) (by assumption) ?rest55
        case hy55 => (intro w hSw; (try dsimp only at hSw); go_simp; (try with_reducible rfl))
        (try simp only [Act.put, List.getElem_toArray, List.getElem_cons_zero, List.getElem_cons_succ, List.setIfInBounds_toArray, List.set_cons_zero, List.set_cons_succ])
        refine wpAnyH_take (i := 7) (oi := ({ dst := some 37, op := .load 40 (.tmp 36), type := 40, pos := "ref.go:71", after := #[⟨6, .data⟩], guard := none } : Go.Oper)) (v := ?v56) rfl (by kernel_rfl) (by kernel_rfl) (by kernel_rfl) (fun _ _ _ h => h) (Or.inl ⟨by rfl, ?hy56⟩) (by assumption) ?rest56
        case hy56 => (intro w hSw; (try dsimp only at hSw); go_simp; (try with_reducible rfl))
        (try simp only [Act.put, List.getElem_toArray, List.getElem_cons_zero, List.getElem_cons_succ, List.setIfInBounds_toArray, List.set_cons_zero, List.set_cons_succ])
        refine wpAnyH_take (i := 10) (oi := ({ dst := some 40, op := .move (.tmp 3), type := 22, pos := "ref.go:71", after := #[], guard := none } : Go.Oper)) (v := ?v57) rfl (by kernel_rfl) (by kernel_rfl) (by kernel_rfl) (fun _ _ _ h => h) (Or.inl ⟨by rfl, ?hy57⟩) (by assumption) ?rest57
        case hy57 => (intro w hSw; (try dsimp only at hSw); go_simp; (try with_reducible rfl))
        (try simp only [Act.put, List.getElem_toArray, List.getElem_cons_zero, List.getElem_cons_succ, List.setIfInBounds_toArray, List.set_cons_zero, List.set_cons_succ])
        refine wpAnyH_take (i := 11) (oi := ({ dst := some 41, op := .move (.tmp 5), type := 3, pos := "ref.go:71", after := #[], guard := none } : Go.Oper)) (v := ?v58) rfl (by kernel_rfl) (by kernel_rfl) (by kernel_rfl) (fun _ _ _ h => h) (Or.inl ⟨by rfl, ?hy58⟩) (by assumption) ?rest58
        case hy58 => (intro w hSw; (try dsimp only at hSw); go_simp; (try with_reducible rfl))
        (try simp only [Act.put, List.getElem_toArray, List.getElem_cons_zero, List.getElem_cons_succ, List.setIfInBounds_toArray, List.set_cons_zero, List.set_cons_succ])
        refine wpAnyH_take (i := 12) (oi := ({ dst := some 42, op := .slice 22 (.tmp 40) (some (.tmp 41)) none none, type := 22, pos := "ref.go:71", after := #[⟨10, .data⟩, ⟨11, .data⟩], guard := none } : Go.Oper)) (v := ?v59) rfl (by kernel_rfl) (by kernel_rfl) (by kernel_rfl) (fun _ _ _ h => h) (Or.inl ⟨by rfl, ?hy59⟩) (by assumption) ?rest59
        case hy59 => (intro w hSw; (try dsimp only at hSw); go_simp; (try with_reducible rfl))
        (try simp only [Act.put, List.getElem_toArray, List.getElem_cons_zero, List.getElem_cons_succ, List.setIfInBounds_toArray, List.set_cons_zero, List.set_cons_succ])
        refine wpAnyH_ready (rs := [3, 8]) (by kernel_rfl) (by simp) ?_
        refine AllReadyH.cons (o := ({ dst := some 33, op := .call { callee := .builtin .append, args := #[.const (.slice none 0 0), .tmp 32], argTypes := #[22, 22] }, type := 22, pos := "ref.go:71", after := #[⟨2, .data⟩], guard := none } : Go.Oper)) rfl (fun K hK => ?one60) ?more60
        case' one60 =>
          refine step_appT rfl _ _ rfl wc.heap.size (.slice none 0 0) [] rfl (OwnT.nil _ _) (some ⟨gy, 0, none⟩) k cy (ys.take k) rfl (HTK.out.ext (by with_reducible (repeat (first | exact Ext.rfl_ _ | assumption | refine Ext.drew ?_ | refine Ext.drewN ?_ _ | refine Ext.alloc ?_ _ | refine Ext.trans ?_ (by assumption))))) (by rw [List.length_take]; unfold B40; simp; omega) (Ext.size (show Ext wc _ from (by with_reducible (repeat (first | exact Ext.rfl_ _ | assumption | refine Ext.drew ?_ | refine Ext.drewN ?_ _ | refine Ext.alloc ?_ _ | refine Ext.trans ?_ (by assumption)))))) ?_; intro v5 w5 h5 g5 _; rw [List.nil_append] at h5; have Y5 := ext_none g5; clear g5; have HL5 : Hid ((ys.take k).length = k) := Lib.hid (by rw [List.length_take, HYL.out]; omega); obtain ⟨A5, n5, c5, rfl, hc5, _⟩ := h5.formN (by rw [HL5.out]; unfold B47; omega); have H5 := Lib.hid h5; clear h5
          refine hK.out _ _ (by (try dsimp only); exact HSW.out _ (by with_reducible (repeat (first | exact Ext.rfl_ _ | assumption | refine Ext.drew ?_ | refine Ext.drewN ?_ _ | refine Ext.alloc ?_ _ | refine Ext.trans ?_ (by assumption))))) (fun hHeld => ?_)
          clear hK K
          (try simp only [Act.put, List.getElem_toArray, List.getElem_cons_zero, List.getElem_cons_succ, List.setIfInBounds_toArray, List.set_cons_zero, List.set_cons_succ])
          refine wpAnyH_ready (rs := [8]) (by kernel_rfl) (by simp) ?_
          refine AllReadyH.cons (o := ({ dst := some 38, op := .buildSlice 22 1 #[(0, .tmp 37)], type := 22, pos := "ref.go:71", after := #[⟨7, .data⟩], guard := none } : Go.Oper)) rfl (fun K hK => ?_) AllReadyH.nil
          go_simp; (first | have HX1 := Lib.hid (RdTa.one 40 (HEX.out w5 (show Ext wc w5 from (by with_reducible (repeat (first | exact Ext.rfl_ _ | assumption | refine Ext.drew ?_ | refine Ext.drewN ?_ _ | refine Ext.alloc ?_ _ | refine Ext.trans ?_ (by assumption))))))) | have HX1 := Lib.hid (RdTa.one 40 (HEX.out wc (Ext.rfl_ wc))))
          refine hK.out _ _ (by (try dsimp only); exact HSW.out _ (by with_reducible (repeat (first | exact Ext.rfl_ _ | assumption | refine Ext.drew ?_ | refine Ext.drewN ?_ _ | refine Ext.alloc ?_ _ | refine Ext.trans ?_ (by assumption))))) (fun hHeld => ?_)
          clear hK K
          (try simp only [Act.put, List.getElem_toArray, List.getElem_cons_zero, List.getElem_cons_succ, List.setIfInBounds_toArray, List.set_cons_zero, List.set_cons_succ])
          refine wpAnyH_ready (rs := [9]) (by kernel_rfl) (by simp) ?_
          refine AllReadyH.cons (o := ({ dst := some 39, op := .call { callee := .builtin .append, args := #[.tmp 33, .tmp 38], argTypes := #[22, 22] }, type := 22, pos := "ref.go:71", after := #[⟨3, .data⟩, ⟨8, .data⟩, ⟨3, .chain⟩], guard := none } : Go.Oper)) rfl (fun K hK => ?_) AllReadyH.nil
          refine step_appT rfl _ _ rfl wc.heap.size _ (ys.take k) rfl (H5.out.ext (by with_reducible (repeat (first | exact Ext.rfl_ _ | assumption | refine Ext.drew ?_ | refine Ext.drewN ?_ _ | refine Ext.alloc ?_ _ | refine Ext.trans ?_ (by assumption))))) _ 1 1 [t] rfl (HX1.out.ext (by with_reducible (repeat (first | exact Ext.rfl_ _ | assumption | refine Ext.drew ?_ | refine Ext.drewN ?_ _ | refine Ext.alloc ?_ _ | refine Ext.trans ?_ (by assumption))))) (by rw [HL5.out]; unfold B40; simp; omega) (Ext.size (show Ext wc _ from (by with_reducible (repeat (first | exact Ext.rfl_ _ | assumption | refine Ext.drew ?_ | refine Ext.drewN ?_ _ | refine Ext.alloc ?_ _ | refine Ext.trans ?_ (by assumption)))))) ?_; intro v6 w6 h6 g6 _; have X6 : Ext wc w6 := Ext.growT (show Ext wc _ from (by with_reducible (repeat (first | exact Ext.rfl_ _ | assumption | refine Ext.drew ?_ | refine Ext.drewN ?_ _ | refine Ext.alloc ?_ _ | refine Ext.trans ?_ (by assumption))))) g6 (H5.out.ext (by with_reducible (repeat (first | exact Ext.rfl_ _ | assumption | refine Ext.drew ?_ | refine Ext.drewN ?_ _ | refine Ext.alloc ?_ _ | refine Ext.trans ?_ (by assumption))))) (Nat.le_refl _); clear g6; have HL6 : Hid ((ys.take k ++ [t]).length = k + 1) := Lib.hid (by rw [List.length_append, HL5.out]; rfl); obtain ⟨A6, n6, c6, rfl, hc6, _⟩ := h6.formN (by rw [HL6.out]; unfold B47; omega); have H6 := Lib.hid h6; clear h6
          refine hK.out _ _ (by (try dsimp only); exact HSW.out _ (by with_reducible (repeat (first | exact Ext.rfl_ _ | assumption | refine Ext.drew ?_ | refine Ext.drewN ?_ _ | refine Ext.alloc ?_ _ | refine Ext.trans ?_ (by assumption))))) (fun hHeld => ?_)
          clear hK K
          (try simp only [Act.put, List.getElem_toArray, List.getElem_cons_zero, List.getElem_cons_succ, List.setIfInBounds_toArray, List.set_cons_zero, List.set_cons_succ])
          refine wpAnyH_ready (rs := [13]) (by kernel_rfl) (by simp) ?_
          refine AllReadyH.cons (o := ({ dst := some 43, op := .call { callee := .builtin .append, args := #[.tmp 39, .tmp 42], argTypes := #[22, 22] }, type := 22, pos := "ref.go:71", after := #[⟨9, .data⟩, ⟨12, .data⟩, ⟨9, .chain⟩], guard := none } : Go.Oper)) rfl (fun K hK => ?_) AllReadyH.nil
          refine step_appT rfl _ _ rfl wc.heap.size _ (ys.take k ++ [t]) rfl (H6.out.ext (by with_reducible (repeat (first | exact Ext.rfl_ _ | assumption | refine Ext.drew ?_ | refine Ext.drewN ?_ _ | refine Ext.alloc ?_ _ | refine Ext.trans ?_ (by assumption))))) (some ⟨gy, k * 5, none⟩) (i - k) (cy - k) (ys.drop k) rfl (HDK.out.ext (by with_reducible (repeat (first | exact Ext.rfl_ _ | assumption | refine Ext.drew ?_ | refine Ext.drewN ?_ _ | refine Ext.alloc ?_ _ | refine Ext.trans ?_ (by assumption))))) (by rw [HL6.out, List.length_drop]; unfold B40; omega) (Ext.size (show Ext wc _ from (by with_reducible (repeat (first | exact Ext.rfl_ _ | assumption | refine Ext.drew ?_ | refine Ext.drewN ?_ _ | refine Ext.alloc ?_ _ | refine Ext.trans ?_ (by assumption)))))) ?_; intro v7 w7 h7 g7 _; have X7 : Ext wc w7 := Ext.growT (show Ext wc _ from (by with_reducible (repeat (first | exact Ext.rfl_ _ | assumption | refine Ext.drew ?_ | refine Ext.drewN ?_ _ | refine Ext.alloc ?_ _ | refine Ext.trans ?_ (by assumption))))) g7 (H6.out.ext (by with_reducible (repeat (first | exact Ext.rfl_ _ | assumption | refine Ext.drew ?_ | refine Ext.drewN ?_ _ | refine Ext.alloc ?_ _ | refine Ext.trans ?_ (by assumption))))) (Nat.le_refl _); have H7 := Lib.hid h7; clear g7 h7
          refine hK.out _ _ (by (try dsimp only); exact HSW.out _ (by with_reducible (repeat (first | exact Ext.rfl_ _ | assumption | refine Ext.drew ?_ | refine Ext.drewN ?_ _ | refine Ext.alloc ?_ _ | refine Ext.trans ?_ (by assumption))))) (fun hHeld => ?_)
          clear hK K
          (try simp only [Act.put, List.getElem_toArray, List.getElem_cons_zero, List.getElem_cons_succ, List.setIfInBounds_toArray, List.set_cons_zero, List.set_cons_succ])
          refine wpAnyH_take (i := 14) (oi := ({ dst := some 3, op := .assign (.tmp 43), type := 22, pos := "ref.go:71", after := #[⟨13, .data⟩, ⟨13, .chain⟩, ⟨0, .phase⟩, ⟨1, .phase⟩, ⟨2, .phase⟩, ⟨3, .phase⟩, ⟨4, .phase⟩, ⟨5, .phase⟩, ⟨6, .phase⟩, ⟨7, .phase⟩, ⟨8, .phase⟩, ⟨9, .phase⟩, ⟨10, .phase⟩, ⟨11, .phase⟩, ⟨12, .phase⟩, ⟨13, .phase⟩], guard := none } : Go.Oper)) (v := ?v61) rfl (by kernel_rfl) (by kernel_rfl) (by kernel_rfl) (fun _ _ _ h => h) (Or.inl ⟨by rfl, ?hy61⟩) (by assumption) ?rest61
          case hy61 => (intro w hSw; (try dsimp only at hSw); go_simp; (try with_reducible rfl))
          (try simp only [Act.put, List.getElem_toArray, List.getElem_cons_zero, List.getElem_cons_succ, List.setIfInBounds_toArray, List.set_cons_zero, List.set_cons_succ])
          refine wpAnyH_done (by kernel_rfl) ?_ _
        case' more60 =>
          refine AllReadyH.cons (o := ({ dst := some 38, op := .buildSlice 22 1 #[(0, .tmp 37)], type := 22, pos := "ref.go:71", after := #[⟨7, .data⟩], guard := none } : Go.Oper)) rfl (fun K hK => ?_) AllReadyH.nil
          go_simp; (first | have HX1 := Lib.hid (RdTa.one 40 (HEX.out w5 (show Ext wc w5 from (by with_reducible (repeat (first | exact Ext.rfl_ _ | assumption | refine Ext.drew ?_ | refine Ext.drewN ?_ _ | refine Ext.alloc ?_ _ | refine Ext.trans ?_ (by assumption))))))) | have HX1 := Lib.hid (RdTa.one 40 (HEX.out wc (Ext.rfl_ wc))))
          refine hK.out _ _ (by (try dsimp only); exact HSW.out _ (by with_reducible (repeat (first | exact Ext.rfl_ _ | assumption | refine Ext.drew ?_ | refine Ext.drewN ?_ _ | refine Ext.alloc ?_ _ | refine Ext.trans ?_ (by assumption))))) (fun hHeld => ?_)
          clear hK K
          (try simp only [Act.put, List.getElem_toArray, List.getElem_cons_zero, List.getElem_cons_succ, List.setIfInBounds_toArray, List.set_cons_zero, List.set_cons_succ])
          refine wpAnyH_ready (rs := [3]) (by kernel_rfl) (by simp) ?_
          refine AllReadyH.cons (o := ({ dst := some 33, op := .call { callee := .builtin .append, args := #[.const (.slice none 0 0), .tmp 32], argTypes := #[22, 22] }, type := 22, pos := "ref.go:71", after := #[⟨2, .data⟩], guard := none } : Go.Oper)) rfl (fun K hK => ?_) AllReadyH.nil
          refine step_appT rfl _ _ rfl wc.heap.size (.slice none 0 0) [] rfl (OwnT.nil _ _) (some ⟨gy, 0, none⟩) k cy (ys.take k) rfl (HTK.out.ext (by with_reducible (repeat (first | exact Ext.rfl_ _ | assumption | refine Ext.drew ?_ | refine Ext.drewN ?_ _ | refine Ext.alloc ?_ _ | refine Ext.trans ?_ (by assumption))))) (by rw [List.length_take]; unfold B40; simp; omega) (Ext.size (show Ext wc _ from (by with_reducible (repeat (first | exact Ext.rfl_ _ | assumption | refine Ext.drew ?_ | refine Ext.drewN ?_ _ | refine Ext.alloc ?_ _ | refine Ext.trans ?_ (by assumption)))))) ?_; intro v5 w5 h5 g5 _; rw [List.nil_append] at h5; have Y5 := ext_none g5; clear g5; have HL5 : Hid ((ys.take k).length = k) := Lib.hid (by rw [List.length_take, HYL.out]; omega); obtain ⟨A5, n5, c5, rfl, hc5, _⟩ := h5.formN (by rw [HL5.out]; unfold B47; omega); have H5 := Lib.hid h5; clear h5
          refine hK.out _ _ (by (try dsimp only); exact HSW.out _ (by with_reducible (repeat (first | exact Ext.rfl_ _ | assumption | refine Ext.drew ?_ | refine Ext.drewN ?_ _ | refine Ext.alloc ?_ _ | refine Ext.trans ?_ (by assumption))))) (fun hHeld => ?_)
          clear hK K
          (try simp only [Act.put, List.getElem_toArray, List.getElem_cons_zero, List.getElem_cons_succ, List.setIfInBounds_toArray, List.set_cons_zero, List.set_cons_succ])
          refine wpAnyH_ready (rs := [9]) (by kernel_rfl) (by simp) ?_
          refine AllReadyH.cons (o := ({ dst := some 39, op := .call { callee := .builtin .append, args := #[.tmp 33, .tmp 38], argTypes := #[22, 22] }, type := 22, pos := "ref.go:71", after := #[⟨3, .data⟩, ⟨8, .data⟩, ⟨3, .chain⟩], guard := none } : Go.Oper)) rfl (fun K hK => ?_) AllReadyH.nil
          refine step_appT rfl _ _ rfl wc.heap.size _ (ys.take k) rfl (H5.out.ext (by with_reducible (repeat (first | exact Ext.rfl_ _ | assumption | refine Ext.drew ?_ | refine Ext.drewN ?_ _ | refine Ext.alloc ?_ _ | refine Ext.trans ?_ (by assumption))))) _ 1 1 [t] rfl (HX1.out.ext (by with_reducible (repeat (first | exact Ext.rfl_ _ | assumption | refine Ext.drew ?_ | refine Ext.drewN ?_ _ | refine Ext.alloc ?_ _ | refine Ext.trans ?_ (by assumption))))) (by rw [HL5.out]; unfold B40; simp; omega) (Ext.size (show Ext wc _ from (by with_reducible (repeat (first | exact Ext.rfl_ _ | assumption | refine Ext.drew ?_ | refine Ext.drewN ?_ _ | refine Ext.alloc ?_ _ | refine Ext.trans ?_ (by assumption)))))) ?_; intro v6 w6 h6 g6 _; have X6 : Ext wc w6 := Ext.growT (show Ext wc _ from (by with_reducible (repeat (first | exact Ext.rfl_ _ | assumption | refine Ext.drew ?_ | refine Ext.drewN ?_ _ | refine Ext.alloc ?_ _ | refine Ext.trans ?_ (by assumption))))) g6 (H5.out.ext (by with_reducible (repeat (first | exact Ext.rfl_ _ | assumption | refine Ext.drew ?_ | refine Ext.drewN ?_ _ | refine Ext.alloc ?_ _ | refine Ext.trans ?_ (by assumption))))) (Nat.le_refl _); clear g6; have HL6 : Hid ((ys.take k ++ [t]).length = k + 1) := Lib.hid (by rw [List.length_append, HL5.out]; rfl); obtain ⟨A6, n6, c6, rfl, hc6, _⟩ := h6.formN (by rw [HL6.out]; unfold B47; omega); have H6 := Lib.hid h6; clear h6
          refine hK.out _ _ (by (try dsimp only); exact HSW.out _ (by with_reducible (repeat (first | exact Ext.rfl_ _ | assumption | refine Ext.drew ?_ | refine Ext.drewN ?_ _ | refine Ext.alloc ?_ _ | refine Ext.trans ?_ (by assumption))))) (fun hHeld => ?_)
          clear hK K
          (try simp only [Act.put, List.getElem_toArray, List.getElem_cons_zero, List.getElem_cons_succ, List.setIfInBounds_toArray, List.set_cons_zero, List.set_cons_succ])
          refine wpAnyH_ready (rs := [13]) (by kernel_rfl) (by simp) ?_
          refine AllReadyH.cons (o := ({ dst := some 43, op := .call { callee := .builtin .append, args := #[.tmp 39, .tmp 42], argTypes := #[22, 22] }, type := 22, pos := "ref.go:71", after := #[⟨9, .data⟩, ⟨12, .data⟩, ⟨9, .chain⟩], guard := none } : Go.Oper)) rfl (fun K hK => ?_) AllReadyH.nil
          refine step_appT rfl _ _ rfl wc.heap.size _ (ys.take k ++ [t]) rfl (H6.out.ext (by with_reducible (repeat (first | exact Ext.rfl_ _ | assumption | refine Ext.drew ?_ | refine Ext.drewN ?_ _ | refine Ext.alloc ?_ _ | refine Ext.trans ?_ (by assumption))))) (some ⟨gy, k * 5, none⟩) (i - k) (cy - k) (ys.drop k) rfl (HDK.out.ext (by with_reducible (repeat (first | exact Ext.rfl_ _ | assumption | refine Ext.drew ?_ | refine Ext.drewN ?_ _ | refine Ext.alloc ?_ _ | refine Ext.trans ?_ (by assumption))))) (by rw [HL6.out, List.length_drop]; unfold B40; omega) (Ext.size (show Ext wc _ from (by with_reducible (repeat (first | exact Ext.rfl_ _ | assumption | refine Ext.drew ?_ | refine Ext.drewN ?_ _ | refine Ext.alloc ?_ _ | refine Ext.trans ?_ (by assumption)))))) ?_; intro v7 w7 h7 g7 _; have X7 : Ext wc w7 := Ext.growT (show Ext wc _ from (by with_reducible (repeat (first | exact Ext.rfl_ _ | assumption | refine Ext.drew ?_ | refine Ext.drewN ?_ _ | refine Ext.alloc ?_ _ | refine Ext.trans ?_ (by assumption))))) g7 (H6.out.ext (by with_reducible (repeat (first | exact Ext.rfl_ _ | assumption | refine Ext.drew ?_ | refine Ext.drewN ?_ _ | refine Ext.alloc ?_ _ | refine Ext.trans ?_ (by assumption))))) (Nat.le_refl _); have H7 := Lib.hid h7; clear g7 h7
          refine hK.out _ _ (by (try dsimp only); exact HSW.out _ (by with_reducible (repeat (first | exact Ext.rfl_ _ | assumption | refine Ext.drew ?_ | refine Ext.drewN ?_ _ | refine Ext.alloc ?_ _ | refine Ext.trans ?_ (by assumption))))) (fun hHeld => ?_)
          clear hK K
          (try simp only [Act.put, List.getElem_toArray, List.getElem_cons_zero, List.getElem_cons_succ, List.setIfInBounds_toArray, List.set_cons_zero, List.set_cons_succ])
          refine wpAnyH_take (i := 14) (oi := ({ dst := some 3, op := .assign (.tmp 43), type := 22, pos := "ref.go:71", after := #[⟨13, .data⟩, ⟨13, .chain⟩, ⟨0, .phase⟩, ⟨1, .phase⟩, ⟨2, .phase⟩, ⟨3, .phase⟩, ⟨4, .phase⟩, ⟨5, .phase⟩, ⟨6, .phase⟩, ⟨7, .phase⟩, ⟨8, .phase⟩, ⟨9, .phase⟩, ⟨10, .phase⟩, ⟨11, .phase⟩, ⟨12, .phase⟩, ⟨13, .phase⟩], guard := none } : Go.Oper)) (v := ?v62) rfl (by kernel_rfl) (by kernel_rfl) (by kernel_rfl) (fun _ _ _ h => h) (Or.inl ⟨by rfl, ?hy62⟩) (by assumption) ?rest62
          case hy62 => (intro w hSw; (try dsimp only at hSw); go_simp; (try with_reducible rfl))
          (try simp only [Act.put, List.getElem_toArray, List.getElem_cons_zero, List.getElem_cons_succ, List.setIfInBounds_toArray, List.set_cons_zero, List.set_cons_succ])
          refine wpAnyH_done (by kernel_rfl) ?_ _
        all_goals
          go_wp2
          go_roundw
          case rel => exact ⟨i + 1, wc.heap.size, by simp, by omega, Nat.le_trans HEW.out.size HKX.out.size, X7.size, HEW.out.trans (HKX.out.trans X7), Lib.hid (by rw [HIN.out]; simpa using H7.out)⟩
          case measure => simp [intOf]; omega
      · obtain rfl : cy = k := by omega
        have HDK : Hid (RdTa wc wc.heap.size (some ⟨gy, 0, none⟩) 0 (ys.drop cy)) := Lib.hid (by
          have e2 : ys.drop cy = [] := List.drop_eq_nil_of_le (by omega)
          rw [e2]
          exact RdTa.nil _ _ _)
        have hbnd : cy ≤ cy := by omega
        go_wp2
        refine wp_region_held_drew (S := (fun W => W.cell? ⟨b, o + i * 5, none⟩ = some (.int .i64 t.num) ∧ W.cell? ⟨b, o + i * 5 + 1, none⟩ = some (.int .i64 t.lvl) ∧ W.cell? ⟨b, o + i * 5 + 2, none⟩ = some (.slice A1 n1 c1) ∧ W.cell? ⟨b, o + i * 5 + 3, none⟩ = some (.slice A2 n2 c2) ∧ W.cell? ⟨b, o + i * 5 + 4, none⟩ = some (.int .i64 t.size))) (by kernel_rfl) (by (try dsimp only); exact HSW.out _ (by with_reducible (repeat (first | exact Ext.rfl_ _ | assumption | refine Ext.drew ?_ | refine Ext.drewN ?_ _ | refine Ext.alloc ?_ _ | refine Ext.trans ?_ (by assumption))))) (fun hHeld => ?_)
        refine wpAnyH_take (i := 0) (oi := ({ dst := some 30, op := .move (.tmp 3), type := 22, pos := "ref.go:71", after := #[], guard := none } : Go.Oper)) (v := ?v63) rfl (by kernel_rfl) (by kernel_rfl) (by kernel_rfl) (fun _ _ _ h => h) (Or.inl ⟨by rfl, ?hy63⟩) (by assumption) ?rest63
        case hy63 => (intro w hSw; (try dsimp only at hSw); go_simp; (try with_reducible rfl))
        (try simp only [Act.put, List.getElem_toArray, List.getElem_cons_zero, List.getElem_cons_succ, List.setIfInBounds_toArray, List.set_cons_zero, List.set_cons_succ])
        refine wpAnyH_take (i := 1) (oi := ({ dst := some 31, op := .move (.tmp 5), type := 3, pos := "ref.go:71", after := #[], guard := none } : Go.Oper)) (v := ?v64) rfl (by kernel_rfl) (by kernel_rfl) (by kernel_rfl) (fun _ _ _ h => h) (Or.inl ⟨by rfl, ?hy64⟩) (by assumption) ?rest64
        case hy64 => (intro w hSw; (try dsimp only at hSw); go_simp; (try with_reducible rfl))
        (try simp only [Act.put, List.getElem_toArray, List.getElem_cons_zero, List.getElem_cons_succ, List.setIfInBounds_toArray, List.set_cons_zero, List.set_cons_succ])
        refine wpAnyH_take (i := 2) (oi := ({ dst := some 32, op := .slice 22 (.tmp 30) none (some (.tmp 31)) none, type := 22, pos := "ref.go:71", after := #[⟨0, .data⟩, ⟨1, .data⟩], guard := none } : Go.Oper)) (v := ?v65) rfl (by kernel_rfl) (by kernel_rfl) (by kernel_rfl) (fun _ _ _ h => h) (Or.inl ⟨by rfl, ?hy65⟩) (by assumption) ?rest65
        case hy65 => (intro w hSw; (try dsimp only at hSw); go_simp; (try with_reducible rfl))
        (try simp only [Act.put, List.getElem_toArray, List.getElem_cons_zero, List.getElem_cons_succ, List.setIfInBounds_toArray, List.set_cons_zero, List.set_cons_succ])
        refine wpAnyH_take (i := 4) (oi := ({ dst := some 34, op := .move (.tmp 0), type := 22, pos := "ref.go:71", after := #[], guard := none } : Go.Oper)) (v := ?v66) rfl (by kernel_rfl) (by kernel_rfl) (by kernel_rfl) (fun _ _ _ h => h) (Or.inl ⟨by rfl, ?hy66⟩) (by assumption) ?rest66
        case hy66 => (intro w hSw; (try dsimp only at hSw); go_simp; (try with_reducible rfl))
        (try simp only [Act.put, List.getElem_toArray, List.getElem_cons_zero, List.getElem_cons_succ, List.setIfInBounds_toArray, List.set_cons_zero, List.set_cons_succ])
        refine wpAnyH_take (i := 5) (oi := ({ dst := some 35, op := .move (.tmp 4), type := 3, pos := "ref.go:71", after := #[], guard := none } : Go.Oper)) (v := ?v67) rfl (by kernel_rfl) (by kernel_rfl) (by kernel_rfl) (fun _ _ _ h => h) (Or.inl ⟨by rfl, ?hy67⟩) (by assumption) ?rest67
        case hy67 => (intro w hSw; (try dsimp only at hSw); go_simp; (try with_reducible rfl))
        (try simp only [Act.put, List.getElem_toArray, List.getElem_cons_zero, List.getElem_cons_succ, List.setIfInBounds_toArray, List.set_cons_zero, List.set_cons_succ])
        refine wpAnyH_take (i := 6) (oi := ({ dst := some 36, op := .indexAddr 22 (.tmp 34) (.tmp 35), type := 0, pos := "ref.go:71", after := #[⟨4, .data⟩, ⟨5, .data⟩], guard := none } : Go.Oper)) (v := ?v68) rfl (by kernel_rfl) (by kernel_rfl) (by kernel_rfl) (fun _ _ _ h => h) (Or.inl ⟨by rfl, ?hy68⟩) (by assumption) ?rest68
        case hy68 => (intro w hSw; (try dsimp only at hSw); go_simp; (try with_reducible rfl))
        (try simp only [Act.put, List.getElem_toArray, List.getElem_cons_zero, List.getElem_cons_succ, List.setIfInBounds_toArray, List.set_cons_zero, List.set_cons_succ])
        refine wpAnyH_take (i := 7) (oi := ({ dst := some 37, op := .load 40 (.tmp 36), type := 40, pos := "ref.go:71", after := #[⟨6, .data⟩], guard := none } : Go.Oper)) (v := ?v69) rfl (by kernel_rfl) (by kernel_rfl) (by kernel_rfl) (fun _ _ _ h => h) (Or.inl ⟨by rfl, ?hy69⟩) (by assumption) ?rest69
        case hy69 => (intro w hSw; (try dsimp only at hSw); go_simp; (try with_reducible rfl))
        (try simp only [Act.put, List.getElem_toArray, List.getElem_cons_zero, List.getElem_cons_succ, List.setIfInBounds_toArray, List.set_cons_zero, List.set_cons_succ])
        refine wpAnyH_take (i := 10) (oi := ({ dst := some 40, op := .move (.tmp 3), type := 22, pos := "ref.go:71", after := #[], guard := none } : Go.Oper)) (v := ?v70) rfl (by kernel_rfl) (by kernel_rfl) (by kernel_rfl) (fun _ _ _ h => h) (Or.inl ⟨by rfl, ?hy70⟩) (by assumption) ?rest70
        case hy70 => (intro w hSw; (try dsimp only at hSw); go_simp; (try with_reducible rfl))
        (try simp only [Act.put, List.getElem_toArray, List.getElem_cons_zero, List.getElem_cons_succ, List.setIfInBounds_toArray, List.set_cons_zero, List.set_cons_succ])
        refine wpAnyH_take (i := 11) (oi := ({ dst := some 41, op := .move (.tmp 5), type := 3, pos := "ref.go:71", after := #[], guard := none } : Go.Oper)) (v := ?v71) rfl (by kernel_rfl) (by kernel_rfl) (by kernel_rfl) (fun _ _ _ h => h) (Or.inl ⟨by rfl, ?hy71⟩) (by assumption) ?rest71
        case hy71 => (intro w hSw; (try dsimp only at hSw); go_simp; (try with_reducible rfl))
        (try simp only [Act.put, List.getElem_toArray, List.getElem_cons_zero, List.getElem_cons_succ, List.setIfInBounds_toArray, List.set_cons_zero, List.set_cons_succ])
        refine wpAnyH_take (i := 12) (oi := ({ dst := some 42, op := .slice 22 (.tmp 40) (some (.tmp 41)) none none, type := 22, pos := "ref.go:71", after := #[⟨10, .data⟩, ⟨11, .data⟩], guard := none } : Go.Oper)) (v := ?v72) rfl (by kernel_rfl) (by kernel_rfl) (by kernel_rfl) (fun _ _ _ h => h) (Or.inl ⟨by rfl, ?hy72⟩) (by assumption) ?rest72
        case hy72 => (intro w hSw; (try dsimp only at hSw); go_simp; (try with_reducible rfl))
        (try simp only [Act.put, List.getElem_toArray, List.getElem_cons_zero, List.getElem_cons_succ, List.setIfInBounds_toArray, List.set_cons_zero, List.set_cons_succ])
        refine wpAnyH_ready (rs := [3, 8]) (by kernel_rfl) (by simp) ?_
        refine AllReadyH.cons (o := ({ dst := some 33, op := .call { callee := .builtin .append, args := #[.const (.slice none 0 0), .tmp 32], argTypes := #[22, 22] }, type := 22, pos := "ref.go:71", after := #[⟨2, .data⟩], guard := none } : Go.Oper)) rfl (fun K hK => ?one73) ?more73
        case' one73 =>
          refine step_appT rfl _ _ rfl wc.heap.size (.slice none 0 0) [] rfl (OwnT.nil _ _) (some ⟨gy, 0, none⟩) cy cy (ys.take cy) rfl (HTK.out.ext (by with_reducible (repeat (first | exact Ext.rfl_ _ | assumption | refine Ext.drew ?_ | refine Ext.drewN ?_ _ | refine Ext.alloc ?_ _ | refine Ext.trans ?_ (by assumption))))) (by rw [List.length_take]; unfold B40; simp; omega) (Ext.size (show Ext wc _ from (by with_reducible (repeat (first | exact Ext.rfl_ _ | assumption | refine Ext.drew ?_ | refine Ext.drewN ?_ _ | refine Ext.alloc ?_ _ | refine Ext.trans ?_ (by assumption)))))) ?_; intro v5 w5 h5 g5 _; rw [List.nil_append] at h5; have Y5 := ext_none g5; clear g5; have HL5 : Hid ((ys.take cy).length = cy) := Lib.hid (by rw [List.length_take, HYL.out]; omega); obtain ⟨A5, n5, c5, rfl, hc5, _⟩ := h5.formN (by rw [HL5.out]; unfold B47; omega); have H5 := Lib.hid h5; clear h5
          refine hK.out _ _ (by (try dsimp only); exact HSW.out _ (by with_reducible (repeat (first | exact Ext.rfl_ _ | assumption | refine Ext.drew ?_ | refine Ext.drewN ?_ _ | refine Ext.alloc ?_ _ | refine Ext.trans ?_ (by assumption))))) (fun hHeld => ?_)
          clear hK K
          (try simp only [Act.put, List.getElem_toArray, List.getElem_cons_zero, List.getElem_cons_succ, List.setIfInBounds_toArray, List.set_cons_zero, List.set_cons_succ])
          refine wpAnyH_ready (rs := [8]) (by kernel_rfl) (by simp) ?_
          refine AllReadyH.cons (o := ({ dst := some 38, op := .buildSlice 22 1 #[(0, .tmp 37)], type := 22, pos := "ref.go:71", after := #[⟨7, .data⟩], guard := none } : Go.Oper)) rfl (fun K hK => ?_) AllReadyH.nil
          go_simp; (first | have HX1 := Lib.hid (RdTa.one 40 (HEX.out w5 (show Ext wc w5 from (by with_reducible (repeat (first | exact Ext.rfl_ _ | assumption | refine Ext.drew ?_ | refine Ext.drewN ?_ _ | refine Ext.alloc ?_ _ | refine Ext.trans ?_ (by assumption))))))) | have HX1 := Lib.hid (RdTa.one 40 (HEX.out wc (Ext.rfl_ wc))))
          refine hK.out _ _ (by (try dsimp only); exact HSW.out _ (by with_reducible (repeat (first | exact Ext.rfl_ _ | assumption | refine Ext.drew ?_ | refine Ext.drewN ?_ _ | refine Ext.alloc ?_ _ | refine Ext.trans ?_ (by assumption))))) (fun hHeld => ?_)
          clear hK K
          (try simp only [Act.put, List.getElem_toArray, List.getElem_cons_zero, List.getElem_cons_succ, List.setIfInBounds_toArray, List.set_cons_zero, List.set_cons_succ])
          refine wpAnyH_ready (rs := [9]) (by kernel_rfl) (by simp) ?_
          refine AllReadyH.cons (o := ({ dst := some 39, op := .call { callee := .builtin .append, args := #[.tmp 33, .tmp 38], argTypes := #[22, 22] }, type := 22, pos := "ref.go:71", after := #[⟨3, .data⟩, ⟨8, .data⟩, ⟨3, .chain⟩], guard := none } : Go.Oper)) rfl (fun K hK => ?_) AllReadyH.nil
          refine step_appT rfl _ _ rfl wc.heap.size _ (ys.take cy) rfl (H5.out.ext (by with_reducible (repeat (first | exact Ext.rfl_ _ | assumption | refine Ext.drew ?_ | refine Ext.drewN ?_ _ | refine Ext.alloc ?_ _ | refine Ext.trans ?_ (by assumption))))) _ 1 1 [t] rfl (HX1.out.ext (by with_reducible (repeat (first | exact Ext.rfl_ _ | assumption | refine Ext.drew ?_ | refine Ext.drewN ?_ _ | refine Ext.alloc ?_ _ | refine Ext.trans ?_ (by assumption))))) (by rw [HL5.out]; unfold B40; simp; omega) (Ext.size (show Ext wc _ from (by with_reducible (repeat (first | exact Ext.rfl_ _ | assumption | refine Ext.drew ?_ | refine Ext.drewN ?_ _ | refine Ext.alloc ?_ _ | refine Ext.trans ?_ (by assumption)))))) ?_; intro v6 w6 h6 g6 _; have X6 : Ext wc w6 := Ext.growT (show Ext wc _ from (by with_reducible (repeat (first | exact Ext.rfl_ _ | assumption | refine Ext.drew ?_ | refine Ext.drewN ?_ _ | refine Ext.alloc ?_ _ | refine Ext.trans ?_ (by assumption))))) g6 (H5.out.ext (by with_reducible (repeat (first | exact Ext.rfl_ _ | assumption | refine Ext.drew ?_ | refine Ext.drewN ?_ _ | refine Ext.alloc ?_ _ | refine Ext.trans ?_ (by assumption))))) (Nat.le_refl _); clear g6; have HL6 : Hid ((ys.take cy ++ [t]).length = cy + 1) := Lib.hid (by rw [List.length_append, HL5.out]; rfl); obtain ⟨A6, n6, c6, rfl, hc6, _⟩ := h6.formN (by rw [HL6.out]; unfold B47; omega); have H6 := Lib.hid h6; clear h6
          refine hK.out _ _ (by (try dsimp only); exact HSW.out _ (by with_reducible (repeat (first | exact Ext.rfl_ _ | assumption | refine Ext.drew ?_ | refine Ext.drewN ?_ _ | refine Ext.alloc ?_ _ | refine Ext.trans ?_ (by assumption))))) (fun hHeld => ?_)
          clear hK K
          (try simp only [Act.put, List.getElem_toArray, List.getElem_cons_zero, List.getElem_cons_succ, List.setIfInBounds_toArray, List.set_cons_zero, List.set_cons_succ])
          refine wpAnyH_ready (rs := [13]) (by kernel_rfl) (by simp) ?_
          refine AllReadyH.cons (o := ({ dst := some 43, op := .call { callee := .builtin .append, args := #[.tmp 39, .tmp 42], argTypes := #[22, 22] }, type := 22, pos := "ref.go:71", after := #[⟨9, .data⟩, ⟨12, .data⟩, ⟨9, .chain⟩], guard := none } : Go.Oper)) rfl (fun K hK => ?_) AllReadyH.nil
          refine step_appT rfl _ _ rfl wc.heap.size _ (ys.take cy ++ [t]) rfl (H6.out.ext (by with_reducible (repeat (first | exact Ext.rfl_ _ | assumption | refine Ext.drew ?_ | refine Ext.drewN ?_ _ | refine Ext.alloc ?_ _ | refine Ext.trans ?_ (by assumption))))) (some ⟨gy, 0, none⟩) 0 0 (ys.drop cy) rfl (HDK.out.ext (by with_reducible (repeat (first | exact Ext.rfl_ _ | assumption | refine Ext.drew ?_ | refine Ext.drewN ?_ _ | refine Ext.alloc ?_ _ | refine Ext.trans ?_ (by assumption))))) (by rw [HL6.out, List.length_drop]; unfold B40; omega) (Ext.size (show Ext wc _ from (by with_reducible (repeat (first | exact Ext.rfl_ _ | assumption | refine Ext.drew ?_ | refine Ext.drewN ?_ _ | refine Ext.alloc ?_ _ | refine Ext.trans ?_ (by assumption)))))) ?_; intro v7 w7 h7 g7 _; have X7 : Ext wc w7 := Ext.growT (show Ext wc _ from (by with_reducible (repeat (first | exact Ext.rfl_ _ | assumption | refine Ext.drew ?_ | refine Ext.drewN ?_ _ | refine Ext.alloc ?_ _ | refine Ext.trans ?_ (by assumption))))) g7 (H6.out.ext (by with_reducible (repeat (first | exact Ext.rfl_ _ | assumption | refine Ext.drew ?_ | refine Ext.drewN ?_ _ | refine Ext.alloc ?_ _ | refine Ext.trans ?_ (by assumption))))) (Nat.le_refl _); have H7 := Lib.hid h7; clear g7 h7
          refine hK.out _ _ (by (try dsimp only); exact HSW.out _ (by with_reducible (repeat (first | exact Ext.rfl_ _ | assumption | refine Ext.drew ?_ | refine Ext.drewN ?_ _ | refine Ext.alloc ?_ _ | refine Ext.trans ?_ (by assumption))))) (fun hHeld => ?_)
          clear hK K
          (try simp only [Act.put, List.getElem_toArray, List.getElem_cons_zero, List.getElem_cons_succ, List.setIfInBounds_toArray, List.set_cons_zero, List.set_cons_succ])
          refine wpAnyH_take (i := 14) (oi := ({ dst := some 3, op := .assign (.tmp 43), type := 22, pos := "ref.go:71", after := #[⟨13, .data⟩, ⟨13, .chain⟩, ⟨0, .phase⟩, ⟨1, .phase⟩, ⟨2, .phase⟩, ⟨3, .phase⟩, ⟨4, .phase⟩, ⟨5, .phase⟩, ⟨6, .phase⟩, ⟨7, .phase⟩, ⟨8, .phase⟩, ⟨9, .phase⟩, ⟨10, .phase⟩, ⟨11, .phase⟩, ⟨12, .phase⟩, ⟨13, .phase⟩], guard := none } : Go.Oper)) (v := ?v74) rfl (by kernel_rfl) (by kernel_rfl) (by kernel_rfl) (fun _ _ _ h => h) (Or.inl ⟨by rfl, ?hy74⟩) (by assumption) ?rest74
          case hy74 => (intro w hSw; (try dsimp only at hSw); go_simp; (try with_reducible rfl))
          (try simp only [Act.put, List.getElem_toArray, List.getElem_cons_zero, List.getElem_cons_succ, List.setIfInBounds_toArray, List.set_cons_zero, List.set_cons_succ])
          refine wpAnyH_done (by kernel_rfl) ?_ _
        case' more73 =>
          refine AllReadyH.cons (o := ({ dst := some 38, op := .buildSlice 22 1 #[(0, .tmp 37)], type := 22, pos := "ref.go:71", after := #[⟨7, .data⟩], guard := none } : Go.Oper)) rfl (fun K hK => ?_) AllReadyH.nil
          go_simp; (first | have HX1 := Lib.hid (RdTa.one 40 (HEX.out w5 (show Ext wc w5 from (by with_reducible (repeat (first | exact Ext.rfl_ _ | assumption | refine Ext.drew ?_ | refine Ext.drewN ?_ _ | refine Ext.alloc ?_ _ | refine Ext.trans ?_ (by assumption))))))) | have HX1 := Lib.hid (RdTa.one 40 (HEX.out wc (Ext.rfl_ wc))))
          refine hK.out _ _ (by (try dsimp only); exact HSW.out _ (by with_reducible (repeat (first | exact Ext.rfl_ _ | assumption | refine Ext.drew ?_ | refine Ext.drewN ?_ _ | refine Ext.alloc ?_ _ | refine Ext.trans ?_ (by assumption))))) (fun hHeld => ?_)
          clear hK K
          (try simp only [Act.put, List.getElem_toArray, List.getElem_cons_zero, List.getElem_cons_succ, List.setIfInBounds_toArray, List.set_cons_zero, List.set_cons_succ])
          refine wpAnyH_ready (rs := [3]) (by kernel_rfl) (by simp) ?_
          refine AllReadyH.cons (o := ({ dst := some 33, op := .call { callee := .builtin .append, args := #[.const (.slice none 0 0), .tmp 32], argTypes := #[22, 22] }, type := 22, pos := "ref.go:71", after := #[⟨2, .data⟩], guard := none } : Go.Oper)) rfl (fun K hK => ?_) AllReadyH.nil
          refine step_appT rfl _ _ rfl wc.heap.size (.slice none 0 0) [] rfl (OwnT.nil _ _) (some ⟨gy, 0, none⟩) cy cy (ys.take cy) rfl (HTK.out.ext (by with_reducible (repeat (first | exact Ext.rfl_ _ | assumption | refine Ext.drew ?_ | refine Ext.drewN ?_ _ | refine Ext.alloc ?_ _ | refine Ext.trans ?_ (by assumption))))) (by rw [List.length_take]; unfold B40; simp; omega) (Ext.size (show Ext wc _ from (by with_reducible (repeat (first | exact Ext.rfl_ _ | assumption | refine Ext.drew ?_ | refine Ext.drewN ?_ _ | refine Ext.alloc ?_ _ | refine Ext.trans ?_ (by assumption)))))) ?_; intro v5 w5 h5 g5 _; rw [List.nil_append] at h5; have Y5 := ext_none g5; clear g5; have HL5 : Hid ((ys.take cy).length = cy) := Lib.hid (by rw [List.length_take, HYL.out]; omega); obtain ⟨A5, n5, c5, rfl, hc5, _⟩ := h5.formN (by rw [HL5.out]; unfold B47; omega); have H5 := Lib.hid h5; clear h5
          refine hK.out _ _ (by (try dsimp only); exact HSW.out _ (by with_reducible (repeat (first | exact Ext.rfl_ _ | assumption | refine Ext.drew ?_ | refine Ext.drewN ?_ _ | refine Ext.alloc ?_ _ | refine Ext.trans ?_ (by assumption))))) (fun hHeld => ?_)
          clear hK K
          (try simp only [Act.put, List.getElem_toArray, List.getElem_cons_zero, List.getElem_cons_succ, List.setIfInBounds_toArray, List.set_cons_zero, List.set_cons_succ])
          refine wpAnyH_ready (rs := [9]) (by kernel_rfl) (by simp) ?_
          refine AllReadyH.cons (o := ({ dst := some 39, op := .call { callee := .builtin .append, args := #[.tmp 33, .tmp 38], argTypes := #[22, 22] }, type := 22, pos := "ref.go:71", after := #[⟨3, .data⟩, ⟨8, .data⟩, ⟨3, .chain⟩], guard := none } : Go.Oper)) rfl (fun K hK => ?_) AllReadyH.nil
          refine step_appT rfl _ _ rfl wc.heap.size _ (ys.take cy) rfl (H5.out.ext (by with_reducible (repeat (first | exact Ext.rfl_ _ | assumption | refine Ext.drew ?_ | refine Ext.drewN ?_ _ | refine Ext.alloc ?_ _ | refine Ext.trans ?_ (by assumption))))) _ 1 1 [t] rfl (HX1.out.ext (by with_reducible (repeat (first | exact Ext.rfl_ _ | assumption | refine Ext.drew ?_ | refine Ext.drewN ?_ _ | refine Ext.alloc ?_ _ | refine Ext.trans ?_ (by assumption))))) (by rw [HL5.out]; unfold B40; simp; omega) (Ext.size (show Ext wc _ from (by with_reducible (repeat (first | exact Ext.rfl_ _ | assumption | refine Ext.drew ?_ | refine Ext.drewN ?_ _ | refine Ext.alloc ?_ _ | refine Ext.trans ?_ (by assumption)))))) ?_; intro v6 w6 h6 g6 _; have X6 : Ext wc w6 := Ext.growT (show Ext wc _ from (by with_reducible (repeat (first | exact Ext.rfl_ _ | assumption | refine Ext.drew ?_ | refine Ext.drewN ?_ _ | refine Ext.alloc ?_ _ | refine Ext.trans ?_ (by assumption))))) g6 (H5.out.ext (by with_reducible (repeat (first | exact Ext.rfl_ _ | assumption | refine Ext.drew ?_ | refine Ext.drewN ?_ _ | refine Ext.alloc ?_ _ | refine Ext.trans ?_ (by assumption))))) (Nat.le_refl _); clear g6; have HL6 : Hid ((ys.take cy ++ [t]).length = cy + 1) := Lib.hid (by rw [List.length_append, HL5.out]; rfl); obtain ⟨A6, n6, c6, rfl, hc6, _⟩ := h6.formN (by rw [HL6.out]; unfold B47; omega); have H6 := Lib.hid h6; clear h6
          refine hK.out _ _ (by (try dsimp only); exact HSW.out _ (by with_reducible (repeat (first | exact Ext.rfl_ _ | assumption | refine Ext.drew ?_ | refine Ext.drewN ?_ _ | refine Ext.alloc ?_ _ | refine Ext.trans ?_ (by assumption))))) (fun hHeld => ?_)
          clear hK K
          (try simp only [Act.put, List.getElem_toArray, List.getElem_cons_zero, List.getElem_cons_succ, List.setIfInBounds_toArray, List.set_cons_zero, List.set_cons_succ])
          refine wpAnyH_ready (rs := [13]) (by kernel_rfl) (by simp) ?_
          refine AllReadyH.cons (o := ({ dst := some 43, op := .call { callee := .builtin .append, args := #[.tmp 39, .tmp 42], argTypes := #[22, 22] }, type := 22, pos := "ref.go:71", after := #[⟨9, .data⟩, ⟨12, .data⟩, ⟨9, .chain⟩], guard := none } : Go.Oper)) rfl (fun K hK => ?_) AllReadyH.nil
          refine step_appT rfl _ _ rfl wc.heap.size _ (ys.take cy ++ [t]) rfl (H6.out.ext (by with_reducible (repeat (first | exact Ext.rfl_ _ | assumption | refine Ext.drew ?_ | refine Ext.drewN ?_ _ | refine Ext.alloc ?_ _ | refine Ext.trans ?_ (by assumption))))) (some ⟨gy, 0, none⟩) 0 0 (ys.drop cy) rfl (HDK.out.ext (by with_reducible (repeat (first | exact Ext.rfl_ _ | assumption | refine Ext.drew ?_ | refine Ext.drewN ?_ _ | refine Ext.alloc ?_ _ | refine Ext.trans ?_ (by assumption))))) (by rw [HL6.out, List.length_drop]; unfold B40; omega) (Ext.size (show Ext wc _ from (by with_reducible (repeat (first | exact Ext.rfl_ _ | assumption | refine Ext.drew ?_ | refine Ext.drewN ?_ _ | refine Ext.alloc ?_ _ | refine Ext.trans ?_ (by assumption)))))) ?_; intro v7 w7 h7 g7 _; have X7 : Ext wc w7 := Ext.growT (show Ext wc _ from (by with_reducible (repeat (first | exact Ext.rfl_ _ | assumption | refine Ext.drew ?_ | refine Ext.drewN ?_ _ | refine Ext.alloc ?_ _ | refine Ext.trans ?_ (by assumption))))) g7 (H6.out.ext (by with_reducible (repeat (first | exact Ext.rfl_ _ | assumption | refine Ext.drew ?_ | refine Ext.drewN ?_ _ | refine Ext.alloc ?_ _ | refine Ext.trans ?_ (by assumption))))) (Nat.le_refl _); have H7 := Lib.hid h7; clear g7 h7
          refine hK.out _ _ (by (try dsimp only); exact HSW.out _ (by with_reducible (repeat (first | exact Ext.rfl_ _ | assumption | refine Ext.drew ?_ | refine Ext.drewN ?_ _ | refine Ext.alloc ?_ _ | refine Ext.trans ?_ (by assumption))))) (fun hHeld => ?_)
          clear hK K
          (try simp only [Act.put, List.getElem_toArray, List.getElem_cons_zero, List.getElem_cons_succ, List.setIfInBounds_toArray, List.set_cons_zero, List.set_cons_succ])
          refine wpAnyH_take (i := 14) (oi := ({ dst := some 3, op := .assign (.tmp 43), type := 22, pos := "ref.go:71", after := #[⟨13, .data⟩, ⟨13, .chain⟩, ⟨0, .phase⟩, ⟨1, .phase⟩, ⟨2, .phase⟩, ⟨3, .phase⟩, ⟨4, .phase⟩, ⟨5, .phase⟩, ⟨6, .phase⟩, ⟨7, .phase⟩, ⟨8, .phase⟩, ⟨9, .phase⟩, ⟨10, .phase⟩, ⟨11, .phase⟩, ⟨12, .phase⟩, ⟨13, .phase⟩], guard := none } : Go.Oper)) (v := ?v75) rfl (by kernel_rfl) (by kernel_rfl) (by kernel_rfl) (fun _ _ _ h => h) (Or.inl ⟨by rfl, ?hy75⟩) (by assumption) ?rest75
          case hy75 => (intro w hSw; (try dsimp only at hSw); go_simp; (try with_reducible rfl))
          (try simp only [Act.put, List.getElem_toArray, List.getElem_cons_zero, List.getElem_cons_succ, List.setIfInBounds_toArray, List.set_cons_zero, List.set_cons_succ])
          refine wpAnyH_done (by kernel_rfl) ?_ _
        all_goals
          go_wp2
          go_roundw
          case rel => exact ⟨i + 1, wc.heap.size, by simp, by omega, Nat.le_trans HEW.out.size HKX.out.size, X7.size, HEW.out.trans (HKX.out.trans X7), Lib.hid (by rw [HIN.out]; simpa using H7.out)⟩
          case measure => simp [intOf]; omega

end Go.Proofs.Yteooaplimiifiaa
