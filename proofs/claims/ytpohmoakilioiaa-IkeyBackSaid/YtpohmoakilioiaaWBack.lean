/- The walk of IkeyBack. Conditions: the list and the slice read. -/
import Derived.Test.YtpohmoakilioiaaBackM
import Derived.Test.YtpohmoakilioiaaRefC
import Derived.Test.YtpohmoakilioiaaWCop
import Derived.Test.YtpohmoakilioiaaKnown
namespace Go.Proofs.Ytpohmoakilioiaa
set_option linter.unusedSimpArgs false
set_option linter.unusedVariables false
open Go.RowKit

theorem rdN_or (x : Bs) : rdN x = 0 ∨ rdN x = 4 := by unfold rdN; split <;> simp
theorem rdLN_or (x : Bs) : rdLN x = 0 ∨ rdLN x = 4 := by unfold rdLN; split <;> simp
theorem wrN_or (x : Ent) : wrN x = 0 ∨ wrN x = 2 := by unfold wrN; split <;> simp
theorem wrLN_or (x : List Ent) : wrLN x = 0 ∨ wrLN x = 2 := by unfold wrLN; split <;> simp

set_option maxRecDepth 100000 in
set_option maxHeartbeats 8000000 in
theorem back_walk (A : Option Addr) (n c : Nat) (B : Option Addr) (m d : Nat) (xs : List Ent) (x : Bs) (w : World) (hl : RdL w A n xs) (hnc : n ≤ c) (hx : Rd w B m x) (hmd : m ≤ d) (hm : m ≤ B47) :
    Calls Try.prog 12 #[.slice A n c, .slice B m d] w fun e w' => e = .returned (.bool true) ∧ Ext w w' := by
  have HL := Lib.hid hl
  have HX := Lib.hid hx
  have HE := Lib.hid (rdN_or x)
  have HLE := Lib.hid (rdLN_or x)
  have hn := hl.2.1
  have hxl := hl.1
  unfold B41 at hn
  unfold B47 at hm
  have hnn : (x != x) = false := by simp
  clear hl hx
  by_cases hmu : 100000 < wt xs
  · have hd : decide (100000 < wt xs) = true := decide_eq_true hmu
    have HD := Lib.hid hd
    clear hd hmu
    go_enter Try.func12, Try.ntmps12
    go_wp2_with fail
    refine (known_any _).mono ?_
    rintro e w1 ⟨rfl, hw1⟩
    go_wp2_with fail
    refine (rmuch_any A n c 100000 xs _ (HL.out.ext (by with_reducible (repeat (first | exact Ext.rfl_ _ | assumption | refine Ext.drew ?_ | refine Ext.drewN ?_ _ | refine Ext.alloc ?_ _ | refine Ext.trans ?_ (by assumption))))) (by decide)).mono ?_
    rintro e w2 ⟨rfl, hw2⟩
    rw [HD.out]
    have XT := Lib.hid (hw1.trans hw2)
    clear hw1 hw2
    by_cases h3 : (100000 : Int) < (m : Int)
    · go_wp2
      go_ret
      exact ⟨rfl, XT.out⟩
    go_wp2_with fail
    refine (read_any B m d x _ (HX.out.ext XT.out) (by unfold B40; omega)).mono ?_
    rintro e w5 ⟨v5, rfl, hf5, hw5⟩
    have HF5 := Lib.hid hf5
    obtain ⟨A5, n5, c5, B5, m5, d5, rfl, _, _, _, _, b1, b2, b3, b4, _, _⟩ := hf5
    have HB5 := Lib.hid (blk1 w5 (.cells #[.slice A5 n5 c5, .int .i64 (rdE x).seq, .int .i64 (rdE x).kind, .slice B5 m5 d5] 25))
    have XT5 := Lib.hid (XT.out.trans hw5)
    clear hw5
    obtain ⟨k0, k1, k2, k3, l0, l1, l2, l3⟩ := box4 HB5.out (w' := w5.alloc (.cells #[.slice A5 n5 c5, .int .i64 (rdE x).seq, .int .i64 (rdE x).kind, .slice B5 m5 d5] 25)) (Ext.rfl_ _)
    go_wp2_with fail
    refine (bytes_any _ (rdE x) _ (HF5.out.rd.ext (Ext.alloc (Ext.rfl_ _) _))).mono ?_
    rintro e w6 ⟨v6, rfl, o6, hw6⟩
    obtain ⟨A6, n6, c6, rfl, _, r6, _⟩ := o6.formN
    have R6 := Lib.hid r6
    have XT6 := Lib.hid ((XT5.out.alloc _).trans hw6)
    clear o6 r6 hw6 k0 k1 k2 k3 l0 l1 l2 l3
    rcases HE.out with hr | hr
    all_goals have S6 : Hid (rdN x = 0 → Rd w6 A6 n6 x) := Lib.hid (fun h0 => (by have := R6.out; rwa [(again_e h0).2] at this))
    · have hwe := (again_e hr).1
      have s1 := (S6.out hr).str (P := Try.prog) c6 22 5 9 Try.underlying22 Try.underlying5 Try.underlying9
      have s2 := (HX.out.ext XT6.out).str (P := Try.prog) d 22 5 9 Try.underlying22 Try.underlying5 Try.underlying9
      go_wp2_with fail
      refine (num_any _ _).mono ?_
      rintro e w7 ⟨rfl, rfl⟩
      go_wp2_with fail
      refine (num_any _ _).mono ?_
      rintro e w7 ⟨rfl, rfl⟩
      go_wp2_with fail
      refine (lists_any B m d x _ (HX.out.ext XT6.out) (by unfold B40; omega)).mono ?_
      rintro e w8 ⟨v8, b8, rfl, _, o8, hw8⟩
      obtain ⟨A8, n8, c8, rfl, _, r8, _⟩ := o8.formN (Nat.le_trans (rdL_len x) (by unfold B41; omega))
      have R8 := Lib.hid r8
      have XT8 := Lib.hid (XT6.out.trans hw8)
      clear o8 r8 hw8
      go_wp2_with fail
      refine (list_any A8 n8 c8 (rdL x) _ R8.out).mono ?_
      rintro e w9 ⟨v9, rfl, o9, hw9⟩
      obtain ⟨A9, n9, c9, rfl, _, r9, _⟩ := o9.formN
      have R9 := Lib.hid r9
      have XT9 := Lib.hid (XT8.out.trans hw9)
      clear o9 r9 hw9
      rcases HLE.out with hq | hq
      all_goals have S9 : Hid (rdLN x = 0 → Rd w9 A9 n9 x) := Lib.hid (fun h0 => (by have := R9.out; rwa [(again_l h0).2] at this))
      · have hwq := (again_l hq).1
        have s3 := (S9.out hq).str (P := Try.prog) c9 22 5 9 Try.underlying22 Try.underlying5 Try.underlying9
        have s4 := (HX.out.ext XT9.out).str (P := Try.prog) d 22 5 9 Try.underlying22 Try.underlying5 Try.underlying9
        go_wp2_with fail
        refine (num_any _ _).mono ?_
        rintro e wa ⟨rfl, rfl⟩
        go_wp2_with fail
        refine (num_any _ _).mono ?_
        rintro e wa ⟨rfl, rfl⟩
        go_wp2
        go_ret
        exact ⟨rfl, XT9.out⟩
      · go_wp2_with fail
        refine (num_any _ _).mono ?_
        rintro e wa ⟨rfl, rfl⟩
        go_wp2
        go_ret
        exact ⟨rfl, XT9.out⟩
    · go_wp2_with fail
      refine (num_any _ _).mono ?_
      rintro e w7 ⟨rfl, rfl⟩
      go_wp2_with fail
      refine (lists_any B m d x _ (HX.out.ext XT6.out) (by unfold B40; omega)).mono ?_
      rintro e w8 ⟨v8, b8, rfl, _, o8, hw8⟩
      obtain ⟨A8, n8, c8, rfl, _, r8, _⟩ := o8.formN (Nat.le_trans (rdL_len x) (by unfold B41; omega))
      have R8 := Lib.hid r8
      have XT8 := Lib.hid (XT6.out.trans hw8)
      clear o8 r8 hw8
      go_wp2_with fail
      refine (list_any A8 n8 c8 (rdL x) _ R8.out).mono ?_
      rintro e w9 ⟨v9, rfl, o9, hw9⟩
      obtain ⟨A9, n9, c9, rfl, _, r9, _⟩ := o9.formN
      have R9 := Lib.hid r9
      have XT9 := Lib.hid (XT8.out.trans hw9)
      clear o9 r9 hw9
      rcases HLE.out with hq | hq
      all_goals have S9 : Hid (rdLN x = 0 → Rd w9 A9 n9 x) := Lib.hid (fun h0 => (by have := R9.out; rwa [(again_l h0).2] at this))
      · have hwq := (again_l hq).1
        have s3 := (S9.out hq).str (P := Try.prog) c9 22 5 9 Try.underlying22 Try.underlying5 Try.underlying9
        have s4 := (HX.out.ext XT9.out).str (P := Try.prog) d 22 5 9 Try.underlying22 Try.underlying5 Try.underlying9
        go_wp2_with fail
        refine (num_any _ _).mono ?_
        rintro e wa ⟨rfl, rfl⟩
        go_wp2_with fail
        refine (num_any _ _).mono ?_
        rintro e wa ⟨rfl, rfl⟩
        go_wp2
        go_ret
        exact ⟨rfl, XT9.out⟩
      · go_wp2_with fail
        refine (num_any _ _).mono ?_
        rintro e wa ⟨rfl, rfl⟩
        go_wp2
        go_ret
        exact ⟨rfl, XT9.out⟩
  have hd : decide (100000 < wt xs) = false := decide_eq_false hmu
  have HD := Lib.hid hd
  clear hd hmu
  go_enter Try.func12, Try.ntmps12
  go_wp2_with fail
  refine (known_any _).mono ?_
  rintro e w1 ⟨rfl, hw1⟩
  go_wp2_with fail
  refine (rmuch_any A n c 100000 xs _ (HL.out.ext (by with_reducible (repeat (first | exact Ext.rfl_ _ | assumption | refine Ext.drew ?_ | refine Ext.drewN ?_ _ | refine Ext.alloc ?_ _ | refine Ext.trans ?_ (by assumption))))) (by decide)).mono ?_
  rintro e w2 ⟨rfl, hw2⟩
  rw [HD.out]
  have X2 := Lib.hid (hw1.trans hw2)
  clear hw1 hw2
  go_wp2_with fail
  refine (list_any A n c xs _ (HL.out.ext X2.out)).mono ?_
  rintro e w3 ⟨v3, rfl, o3, hw3⟩
  have hl3 : (wrL xs).length ≤ B40 := by
    unfold wrL
    split
    · rename_i hc
      unfold lisB
      rw [List.length_append]
      have h1 := flat_len xs
      have h2 := numB_length xs.length
      have : 65640 * xs.length ≤ 65640 * 65536 := Nat.mul_le_mul_left _ hc.1
      unfold B40
      omega
    · simp
  obtain ⟨A3, n3, c3, rfl, _, r3, _⟩ := o3.formN
  have hn3 : n3 ≤ B40 := by rw [← r3.1]; exact hl3
  have R3 := Lib.hid r3
  have X3 := Lib.hid (X2.out.trans hw3)
  clear o3 r3 hw3 hl3
  go_wp2_with fail
  refine (lists_any A3 n3 c3 (wrL xs) _ R3.out hn3).mono ?_
  rintro e w4 ⟨v4, b4, rfl, _, o4, hw4⟩
  obtain ⟨A4, n4, c4, rfl, _, r4, _⟩ := o4.formN (Nat.le_trans (rdL_len _) (by unfold B41; omega))
  have R4 := Lib.hid r4
  have X4 := Lib.hid (X3.out.trans hw4)
  clear o4 r4 hw4 hn3
  refine Exists.elim (p := fun w0 => w0 = w4) ⟨_, rfl⟩ ?_
  rintro w0 rfl
  rcases wrLN_or xs with h0 | h0
  · have HBK := Lib.hid (back_l h0)
    have hbk := (back_l h0).1
    go_wp2_with fail
    refine (num_any _ _).mono ?_
    rintro e wa ⟨rfl, rfl⟩
    go_wp2_with fail
    refine (num_any _ _).mono ?_
    rintro e wa ⟨rfl, rfl⟩
    go_wp2_with fail
    refine (rsameL_any A4 n4 c4 A n c xs xs _ (HBK.out.2 ▸ R4.out) (HL.out.ext X4.out)).mono ?_
    rintro e wa ⟨rfl, hwa⟩
    rw [decide_eq_true rfl]
    have X5 := Lib.hid (X4.out.trans hwa)
    clear hwa
    go_wp2
    go_loopw [9] (fun i wr => ∃ k : Nat, i = .int .i64 k ∧ k ≤ n ∧ k ≤ 100 ∧ Hid (Ext w wr)) (fun i _ => n - (intOf i).toNat)
    case atStart => exact ⟨0, rfl, Nat.zero_le _, by omega, X5⟩
    case round =>
      obtain ⟨k, rfl, hk, hk1, XT⟩ := hrel
      by_cases c1 : (k : Int) < (n : Int)
      · by_cases c2 : (k : Int) < 100
        · obtain ⟨b, o, A1, n1, c1', A1', n1', c1'', x1, rfl, hx1, ⟨q0, q1, q2, q3⟩, hr⟩ := HL.out.at_ k (by omega)
          have hS : ∀ W, Ext w W → (W.cell? ⟨b, o + k * 4, none⟩ = some (.slice A1 n1 c1') ∧ W.cell? ⟨b, o + k * 4 + 1, none⟩ = some (.int .i64 x1.seq) ∧ W.cell? ⟨b, o + k * 4 + 2, none⟩ = some (.int .i64 x1.kind) ∧ W.cell? ⟨b, o + k * 4 + 3, none⟩ = some (.slice A1' n1' c1'')) := fun W K =>
            ⟨K.keeps _ _ _ q0, K.keeps _ _ _ q1, K.keeps _ _ _ q2, K.keeps _ _ _ q3⟩
          have HS := Lib.hid hS
          have HR := Lib.hid hr
          clear hS hr hx1 q0 q1 q2 q3
          obtain ⟨q0, q1, q2, q3⟩ := HS.out _ XT.out
          go_wp2_with fail
          refine (bytes_any _ x1 _ (HR.out.ext XT.out)).mono ?_
          rintro e w5 ⟨v5, rfl, o5, hw5⟩
          obtain ⟨A5, n5, c5, rfl, _, r5, _⟩ := o5.formN
          have hn5 : n5 ≤ B40 := by rw [← r5.1]; have := wrE_len x1; unfold B40; omega
          have hl5 : (n5 : Int) = ((wrE x1).length : Int) := by rw [r5.1]
          have R5 := Lib.hid r5
          have HL5 := Lib.hid hl5
          have X5 := Lib.hid (XT.out.trans hw5)
          clear o5 r5 hw5 q0 q1 q2 q3 hl5
          go_wp2_with fail
          refine (read_any A5 n5 c5 (wrE x1) _ R5.out hn5).mono ?_
          rintro e w6 ⟨v6, rfl, hf6, hw6⟩
          have HF6 := Lib.hid hf6
          obtain ⟨A6, n6, c6, B6, m6, d6, rfl, _, _, _, _, b1, b2, b3, b4, _, _⟩ := hf6
          have HB6 := Lib.hid (blk1 w6 (.cells #[.slice A6 n6 c6, .int .i64 (rdE (wrE x1)).seq, .int .i64 (rdE (wrE x1)).kind, .slice B6 m6 d6] 25))
          have x6 : Ext w (w6.alloc (.cells #[.slice A6 n6 c6, .int .i64 (rdE (wrE x1)).seq, .int .i64 (rdE (wrE x1)).kind, .slice B6 m6 d6] 25)) := (X5.out.trans hw6).alloc _
          have X6 := Lib.hid x6
          clear hw6 x6 hn5
          rcases wrN_or x1 with hr | hr
          · have HBE := Lib.hid (back_e hr)
            have hb0 := (back_e hr).1
            go_wp2_with fail
            refine wp_region_held_drew (S := (fun W => (W.cell? ⟨w6.heap.size, 0, none⟩ = some (.slice A6 n6 c6) ∧ W.cell? ⟨w6.heap.size, 1, none⟩ = some (.int .i64 (rdE (wrE x1)).seq) ∧ W.cell? ⟨w6.heap.size, 2, none⟩ = some (.int .i64 (rdE (wrE x1)).kind) ∧ W.cell? ⟨w6.heap.size, 3, none⟩ = some (.slice B6 m6 d6)) ∧ W.cell? ⟨b, o + k * 4, none⟩ = some (.slice A1 n1 c1') ∧ W.cell? ⟨b, o + k * 4 + 1, none⟩ = some (.int .i64 x1.seq) ∧ W.cell? ⟨b, o + k * 4 + 2, none⟩ = some (.int .i64 x1.kind) ∧ W.cell? ⟨b, o + k * 4 + 3, none⟩ = some (.slice A1' n1' c1''))) (by kernel_rfl) (by (try dsimp only); exact ⟨⟨(box4 HB6.out (by with_reducible (repeat (first | exact Ext.rfl_ _ | assumption | refine Ext.drew ?_ | refine Ext.drewN ?_ _ | refine Ext.alloc ?_ _ | refine Ext.trans ?_ (by assumption))))).1, (box4 HB6.out (by with_reducible (repeat (first | exact Ext.rfl_ _ | assumption | refine Ext.drew ?_ | refine Ext.drewN ?_ _ | refine Ext.alloc ?_ _ | refine Ext.trans ?_ (by assumption))))).2.1, (box4 HB6.out (by with_reducible (repeat (first | exact Ext.rfl_ _ | assumption | refine Ext.drew ?_ | refine Ext.drewN ?_ _ | refine Ext.alloc ?_ _ | refine Ext.trans ?_ (by assumption))))).2.2.1, (box4 HB6.out (by with_reducible (repeat (first | exact Ext.rfl_ _ | assumption | refine Ext.drew ?_ | refine Ext.drewN ?_ _ | refine Ext.alloc ?_ _ | refine Ext.trans ?_ (by assumption))))).2.2.2.1⟩, HS.out _ (X6.out.trans (by with_reducible (repeat (first | exact Ext.rfl_ _ | assumption | refine Ext.drew ?_ | refine Ext.drewN ?_ _ | refine Ext.alloc ?_ _ | refine Ext.trans ?_ (by assumption)))))⟩) (fun hHeld => ?_)
            refine wpAnyH_take (i := 0) (oi := ({ dst := some 74, op := Go.Op.move (Go.Operand.tmp 11), type := 31, pos := "law.go:204", after := #[], guard := none } : Go.Oper)) (v := ?v1) rfl (by kernel_rfl) (by kernel_rfl) (by kernel_rfl) (fun _ _ _ h => h) (Or.inl ⟨by rfl, ?hy1⟩) (by assumption) ?rest1
            case hy1 => (intro w hSw; (try dsimp only at hSw); go_simp; (try with_reducible rfl))
            (try simp only [Act.put, List.getElem_toArray, List.getElem_cons_zero, List.getElem_cons_succ, List.setIfInBounds_toArray, List.set_cons_zero, List.set_cons_succ])
            refine wpAnyH_ready (rs := [1]) (by kernel_rfl) (by simp) ?_
            refine AllReadyH.cons (o := ({ dst := some 75, op := Go.Op.call { callee := Go.Callee.value (Go.Operand.func 19), args := #[Go.Operand.tmp 74], argTypes := #[31] }, type := 3, pos := "law.go:204", after := #[{ on := 0, ground := Go.Ground.data }], guard := none } : Go.Oper)) rfl (fun K hK => ?_) AllReadyH.nil
            go_simp
            (first | (go_at_call 19; refine (num_any _ _).mono ?_; rintro e w7 ⟨rfl, rfl⟩) | (go_at_call 23; refine (rsame_self _ _ x1 _ (by have := (HF6.out.rd.ext ((Ext.alloc (Ext.rfl_ _) (.cells #[.slice A6 n6 c6, .int .i64 (rdE (wrE x1)).seq, .int .i64 (rdE (wrE x1)).kind, .slice B6 m6 d6] 25)).trans (by with_reducible (repeat (first | exact Ext.rfl_ _ | assumption | refine Ext.drew ?_ | refine Ext.drewN ?_ _ | refine Ext.alloc ?_ _ | refine Ext.trans ?_ (by assumption)))))); rw [HBE.out.2] at this ⊢; exact this) (HR.out.ext (X6.out.trans (by with_reducible (repeat (first | exact Ext.rfl_ _ | assumption | refine Ext.drew ?_ | refine Ext.drewN ?_ _ | refine Ext.alloc ?_ _ | refine Ext.trans ?_ (by assumption))))))).mono ?_; rintro e w8 ⟨rfl, hw8⟩) | (go_at_call 34; refine (size_any _ x1 _ (HR.out.ext (X6.out.trans (by with_reducible (repeat (first | exact Ext.rfl_ _ | assumption | refine Ext.drew ?_ | refine Ext.drewN ?_ _ | refine Ext.alloc ?_ _ | refine Ext.trans ?_ (by assumption))))))).mono ?_; rintro e w9 ⟨rfl, hw9⟩; rw [← HL5.out]))
            (try (go_wp2_with fail))
            refine hK.out _ _ (by (try dsimp only); exact ⟨⟨(box4 HB6.out (by with_reducible (repeat (first | exact Ext.rfl_ _ | assumption | refine Ext.drew ?_ | refine Ext.drewN ?_ _ | refine Ext.alloc ?_ _ | refine Ext.trans ?_ (by assumption))))).1, (box4 HB6.out (by with_reducible (repeat (first | exact Ext.rfl_ _ | assumption | refine Ext.drew ?_ | refine Ext.drewN ?_ _ | refine Ext.alloc ?_ _ | refine Ext.trans ?_ (by assumption))))).2.1, (box4 HB6.out (by with_reducible (repeat (first | exact Ext.rfl_ _ | assumption | refine Ext.drew ?_ | refine Ext.drewN ?_ _ | refine Ext.alloc ?_ _ | refine Ext.trans ?_ (by assumption))))).2.2.1, (box4 HB6.out (by with_reducible (repeat (first | exact Ext.rfl_ _ | assumption | refine Ext.drew ?_ | refine Ext.drewN ?_ _ | refine Ext.alloc ?_ _ | refine Ext.trans ?_ (by assumption))))).2.2.2.1⟩, HS.out _ (X6.out.trans (by with_reducible (repeat (first | exact Ext.rfl_ _ | assumption | refine Ext.drew ?_ | refine Ext.drewN ?_ _ | refine Ext.alloc ?_ _ | refine Ext.trans ?_ (by assumption)))))⟩) (fun hHeld => ?_)
            clear hK K
            (try simp only [Act.put, List.getElem_toArray, List.getElem_cons_zero, List.getElem_cons_succ, List.setIfInBounds_toArray, List.set_cons_zero, List.set_cons_succ])
            refine wpAnyH_take (i := 2) (oi := ({ dst := some 76, op := Go.Op.binOp Go.BinOp.eql 3 (Go.Operand.tmp 75) (Go.Operand.const (Go.Value.int Go.IntKind.i64 0)) 3, type := 4, pos := "law.go:204", after := #[{ on := 1, ground := Go.Ground.data }], guard := none } : Go.Oper)) (v := ?v2) rfl (by kernel_rfl) (by kernel_rfl) (by kernel_rfl) (fun _ _ _ h => h) (Or.inl ⟨by rfl, ?hy2⟩) (by assumption) ?rest2
            case hy2 => (intro w hSw; (try dsimp only at hSw); go_simp; (try with_reducible rfl))
            (try simp only [Act.put, List.getElem_toArray, List.getElem_cons_zero, List.getElem_cons_succ, List.setIfInBounds_toArray, List.set_cons_zero, List.set_cons_succ])
            refine wpAnyH_take (i := 3) (oi := ({ dst := some 77, op := Go.Op.move (Go.Operand.tmp 76), type := 4, pos := "law.go:204", after := #[{ on := 2, ground := Go.Ground.data }, { on := 1, ground := Go.Ground.chain }], guard := none } : Go.Oper)) (v := ?v3) rfl (by kernel_rfl) (by kernel_rfl) (by kernel_rfl) (fun _ _ _ h => h) (Or.inl ⟨by rfl, ?hy3⟩) (by assumption) ?rest3
            case hy3 => (intro w hSw; (try dsimp only at hSw); go_simp; (try with_reducible rfl))
            (try simp only [Act.put, List.getElem_toArray, List.getElem_cons_zero, List.getElem_cons_succ, List.setIfInBounds_toArray, List.set_cons_zero, List.set_cons_succ])
            refine wpAnyH_take (i := 4) (oi := ({ dst := some 78, op := Go.Op.move (Go.Operand.tmp 13), type := 31, pos := "law.go:204", after := #[{ on := 3, ground := Go.Ground.guard }], guard := some (3, true) } : Go.Oper)) (v := ?v4) rfl (by kernel_rfl) (by kernel_rfl) (by kernel_rfl) (fun _ _ _ h => h) (Or.inl ⟨by rfl, ?hy4⟩) (by assumption) ?rest4
            case hy4 => (intro w hSw; (try dsimp only at hSw); go_simp; (try with_reducible rfl))
            (try simp only [Act.put, List.getElem_toArray, List.getElem_cons_zero, List.getElem_cons_succ, List.setIfInBounds_toArray, List.set_cons_zero, List.set_cons_succ])
            refine wpAnyH_ready (rs := [5]) (by kernel_rfl) (by simp) ?_
            refine AllReadyH.cons (o := ({ dst := some 79, op := Go.Op.call { callee := Go.Callee.value (Go.Operand.func 19), args := #[Go.Operand.tmp 78], argTypes := #[31] }, type := 3, pos := "law.go:204", after := #[{ on := 4, ground := Go.Ground.data }, { on := 3, ground := Go.Ground.chain }, { on := 3, ground := Go.Ground.guard }], guard := some (3, true) } : Go.Oper)) rfl (fun K hK => ?_) AllReadyH.nil
            go_simp
            (first | (go_at_call 19; refine (num_any _ _).mono ?_; rintro e w7 ⟨rfl, rfl⟩) | (go_at_call 23; refine (rsame_self _ _ x1 _ (by have := (HF6.out.rd.ext ((Ext.alloc (Ext.rfl_ _) (.cells #[.slice A6 n6 c6, .int .i64 (rdE (wrE x1)).seq, .int .i64 (rdE (wrE x1)).kind, .slice B6 m6 d6] 25)).trans (by with_reducible (repeat (first | exact Ext.rfl_ _ | assumption | refine Ext.drew ?_ | refine Ext.drewN ?_ _ | refine Ext.alloc ?_ _ | refine Ext.trans ?_ (by assumption)))))); rw [HBE.out.2] at this ⊢; exact this) (HR.out.ext (X6.out.trans (by with_reducible (repeat (first | exact Ext.rfl_ _ | assumption | refine Ext.drew ?_ | refine Ext.drewN ?_ _ | refine Ext.alloc ?_ _ | refine Ext.trans ?_ (by assumption))))))).mono ?_; rintro e w8 ⟨rfl, hw8⟩) | (go_at_call 34; refine (size_any _ x1 _ (HR.out.ext (X6.out.trans (by with_reducible (repeat (first | exact Ext.rfl_ _ | assumption | refine Ext.drew ?_ | refine Ext.drewN ?_ _ | refine Ext.alloc ?_ _ | refine Ext.trans ?_ (by assumption))))))).mono ?_; rintro e w9 ⟨rfl, hw9⟩; rw [← HL5.out]))
            (try (go_wp2_with fail))
            refine hK.out _ _ (by (try dsimp only); exact ⟨⟨(box4 HB6.out (by with_reducible (repeat (first | exact Ext.rfl_ _ | assumption | refine Ext.drew ?_ | refine Ext.drewN ?_ _ | refine Ext.alloc ?_ _ | refine Ext.trans ?_ (by assumption))))).1, (box4 HB6.out (by with_reducible (repeat (first | exact Ext.rfl_ _ | assumption | refine Ext.drew ?_ | refine Ext.drewN ?_ _ | refine Ext.alloc ?_ _ | refine Ext.trans ?_ (by assumption))))).2.1, (box4 HB6.out (by with_reducible (repeat (first | exact Ext.rfl_ _ | assumption | refine Ext.drew ?_ | refine Ext.drewN ?_ _ | refine Ext.alloc ?_ _ | refine Ext.trans ?_ (by assumption))))).2.2.1, (box4 HB6.out (by with_reducible (repeat (first | exact Ext.rfl_ _ | assumption | refine Ext.drew ?_ | refine Ext.drewN ?_ _ | refine Ext.alloc ?_ _ | refine Ext.trans ?_ (by assumption))))).2.2.2.1⟩, HS.out _ (X6.out.trans (by with_reducible (repeat (first | exact Ext.rfl_ _ | assumption | refine Ext.drew ?_ | refine Ext.drewN ?_ _ | refine Ext.alloc ?_ _ | refine Ext.trans ?_ (by assumption)))))⟩) (fun hHeld => ?_)
            clear hK K
            (try simp only [Act.put, List.getElem_toArray, List.getElem_cons_zero, List.getElem_cons_succ, List.setIfInBounds_toArray, List.set_cons_zero, List.set_cons_succ])
            refine wpAnyH_take (i := 6) (oi := ({ dst := some 80, op := Go.Op.binOp Go.BinOp.neq 3 (Go.Operand.tmp 79) (Go.Operand.const (Go.Value.int Go.IntKind.i64 0)) 3, type := 4, pos := "law.go:204", after := #[{ on := 5, ground := Go.Ground.data }, { on := 3, ground := Go.Ground.guard }], guard := some (3, true) } : Go.Oper)) (v := ?v5) rfl (by kernel_rfl) (by kernel_rfl) (by kernel_rfl) (fun _ _ _ h => h) (Or.inl ⟨by rfl, ?hy5⟩) (by assumption) ?rest5
            case hy5 => (intro w hSw; (try dsimp only at hSw); go_simp; (try with_reducible rfl))
            (try simp only [Act.put, List.getElem_toArray, List.getElem_cons_zero, List.getElem_cons_succ, List.setIfInBounds_toArray, List.set_cons_zero, List.set_cons_succ])
            refine wpAnyH_take (i := 7) (oi := ({ dst := some 81, op := Go.Op.move (Go.Operand.tmp 80), type := 4, pos := "law.go:204", after := #[{ on := 6, ground := Go.Ground.data }, { on := 5, ground := Go.Ground.chain }, { on := 3, ground := Go.Ground.guard }], guard := some (3, true) } : Go.Oper)) (v := ?v6) rfl (by kernel_rfl) (by kernel_rfl) (by kernel_rfl) (fun _ _ _ h => h) (Or.inl ⟨by rfl, ?hy6⟩) (by assumption) ?rest6
            case hy6 => (intro w hSw; (try dsimp only at hSw); go_simp; (try with_reducible rfl))
            (try simp only [Act.put, List.getElem_toArray, List.getElem_cons_zero, List.getElem_cons_succ, List.setIfInBounds_toArray, List.set_cons_zero, List.set_cons_succ])
            refine wpAnyH_take (i := 8) (oi := ({ dst := some 82, op := Go.Op.load 25 (Go.Operand.tmp 12), type := 25, pos := "law.go:204", after := #[{ on := 7, ground := Go.Ground.guard }], guard := some (7, false) } : Go.Oper)) (v := ?v7) rfl (by kernel_rfl) (by kernel_rfl) (by kernel_rfl) (fun _ _ _ h => h) (Or.inl ⟨by rfl, ?hy7⟩) (by assumption) ?rest7
            case hy7 => (intro w hSw; (try dsimp only at hSw); go_simp; (try with_reducible rfl))
            (try simp only [Act.put, List.getElem_toArray, List.getElem_cons_zero, List.getElem_cons_succ, List.setIfInBounds_toArray, List.set_cons_zero, List.set_cons_succ])
            refine wpAnyH_take (i := 9) (oi := ({ dst := some 83, op := Go.Op.move (Go.Operand.tmp 0), type := 42, pos := "law.go:204", after := #[{ on := 7, ground := Go.Ground.guard }], guard := some (7, false) } : Go.Oper)) (v := ?v8) rfl (by kernel_rfl) (by kernel_rfl) (by kernel_rfl) (fun _ _ _ h => h) (Or.inl ⟨by rfl, ?hy8⟩) (by assumption) ?rest8
            case hy8 => (intro w hSw; (try dsimp only at hSw); go_simp; (try with_reducible rfl))
            (try simp only [Act.put, List.getElem_toArray, List.getElem_cons_zero, List.getElem_cons_succ, List.setIfInBounds_toArray, List.set_cons_zero, List.set_cons_succ])
            refine wpAnyH_take (i := 10) (oi := ({ dst := some 84, op := Go.Op.move (Go.Operand.tmp 9), type := 3, pos := "law.go:204", after := #[{ on := 7, ground := Go.Ground.guard }], guard := some (7, false) } : Go.Oper)) (v := ?v9) rfl (by kernel_rfl) (by kernel_rfl) (by kernel_rfl) (fun _ _ _ h => h) (Or.inl ⟨by rfl, ?hy9⟩) (by assumption) ?rest9
            case hy9 => (intro w hSw; (try dsimp only at hSw); go_simp; (try with_reducible rfl))
            (try simp only [Act.put, List.getElem_toArray, List.getElem_cons_zero, List.getElem_cons_succ, List.setIfInBounds_toArray, List.set_cons_zero, List.set_cons_succ])
            refine wpAnyH_take (i := 11) (oi := ({ dst := some 85, op := Go.Op.indexAddr 42 (Go.Operand.tmp 83) (Go.Operand.tmp 84), type := 0, pos := "law.go:204", after := #[{ on := 9, ground := Go.Ground.data }, { on := 10, ground := Go.Ground.data }, { on := 7, ground := Go.Ground.guard }], guard := some (7, false) } : Go.Oper)) (v := ?v10) rfl (by kernel_rfl) (by kernel_rfl) (by kernel_rfl) (fun _ _ _ h => h) (Or.inl ⟨by rfl, ?hy10⟩) (by assumption) ?rest10
            case hy10 => (intro w hSw; (try dsimp only at hSw); go_simp; (try with_reducible rfl))
            (try simp only [Act.put, List.getElem_toArray, List.getElem_cons_zero, List.getElem_cons_succ, List.setIfInBounds_toArray, List.set_cons_zero, List.set_cons_succ])
            refine wpAnyH_take (i := 12) (oi := ({ dst := some 86, op := Go.Op.load 25 (Go.Operand.tmp 85), type := 25, pos := "law.go:204", after := #[{ on := 11, ground := Go.Ground.data }, { on := 7, ground := Go.Ground.guard }], guard := some (7, false) } : Go.Oper)) (v := ?v11) rfl (by kernel_rfl) (by kernel_rfl) (by kernel_rfl) (fun _ _ _ h => h) (Or.inl ⟨by rfl, ?hy11⟩) (by assumption) ?rest11
            case hy11 => (intro w hSw; (try dsimp only at hSw); go_simp; (try with_reducible rfl))
            (try simp only [Act.put, List.getElem_toArray, List.getElem_cons_zero, List.getElem_cons_succ, List.setIfInBounds_toArray, List.set_cons_zero, List.set_cons_succ])
            refine wpAnyH_ready (rs := [13]) (by kernel_rfl) (by simp) ?_
            refine AllReadyH.cons (o := ({ dst := some 87, op := Go.Op.call { callee := Go.Callee.value (Go.Operand.func 23), args := #[Go.Operand.tmp 82, Go.Operand.tmp 86], argTypes := #[25, 25] }, type := 4, pos := "law.go:204", after := #[{ on := 8, ground := Go.Ground.data }, { on := 12, ground := Go.Ground.data }, { on := 7, ground := Go.Ground.chain }, { on := 7, ground := Go.Ground.guard }], guard := some (7, false) } : Go.Oper)) rfl (fun K hK => ?_) AllReadyH.nil
            go_simp
            (first | (go_at_call 19; refine (num_any _ _).mono ?_; rintro e w7 ⟨rfl, rfl⟩) | (go_at_call 23; refine (rsame_self _ _ x1 _ (by have := (HF6.out.rd.ext ((Ext.alloc (Ext.rfl_ _) (.cells #[.slice A6 n6 c6, .int .i64 (rdE (wrE x1)).seq, .int .i64 (rdE (wrE x1)).kind, .slice B6 m6 d6] 25)).trans (by with_reducible (repeat (first | exact Ext.rfl_ _ | assumption | refine Ext.drew ?_ | refine Ext.drewN ?_ _ | refine Ext.alloc ?_ _ | refine Ext.trans ?_ (by assumption)))))); rw [HBE.out.2] at this ⊢; exact this) (HR.out.ext (X6.out.trans (by with_reducible (repeat (first | exact Ext.rfl_ _ | assumption | refine Ext.drew ?_ | refine Ext.drewN ?_ _ | refine Ext.alloc ?_ _ | refine Ext.trans ?_ (by assumption))))))).mono ?_; rintro e w8 ⟨rfl, hw8⟩) | (go_at_call 34; refine (size_any _ x1 _ (HR.out.ext (X6.out.trans (by with_reducible (repeat (first | exact Ext.rfl_ _ | assumption | refine Ext.drew ?_ | refine Ext.drewN ?_ _ | refine Ext.alloc ?_ _ | refine Ext.trans ?_ (by assumption))))))).mono ?_; rintro e w9 ⟨rfl, hw9⟩; rw [← HL5.out]))
            (try (go_wp2_with fail))
            refine hK.out _ _ (by (try dsimp only); exact ⟨⟨(box4 HB6.out (by with_reducible (repeat (first | exact Ext.rfl_ _ | assumption | refine Ext.drew ?_ | refine Ext.drewN ?_ _ | refine Ext.alloc ?_ _ | refine Ext.trans ?_ (by assumption))))).1, (box4 HB6.out (by with_reducible (repeat (first | exact Ext.rfl_ _ | assumption | refine Ext.drew ?_ | refine Ext.drewN ?_ _ | refine Ext.alloc ?_ _ | refine Ext.trans ?_ (by assumption))))).2.1, (box4 HB6.out (by with_reducible (repeat (first | exact Ext.rfl_ _ | assumption | refine Ext.drew ?_ | refine Ext.drewN ?_ _ | refine Ext.alloc ?_ _ | refine Ext.trans ?_ (by assumption))))).2.2.1, (box4 HB6.out (by with_reducible (repeat (first | exact Ext.rfl_ _ | assumption | refine Ext.drew ?_ | refine Ext.drewN ?_ _ | refine Ext.alloc ?_ _ | refine Ext.trans ?_ (by assumption))))).2.2.2.1⟩, HS.out _ (X6.out.trans (by with_reducible (repeat (first | exact Ext.rfl_ _ | assumption | refine Ext.drew ?_ | refine Ext.drewN ?_ _ | refine Ext.alloc ?_ _ | refine Ext.trans ?_ (by assumption)))))⟩) (fun hHeld => ?_)
            clear hK K
            (try simp only [Act.put, List.getElem_toArray, List.getElem_cons_zero, List.getElem_cons_succ, List.setIfInBounds_toArray, List.set_cons_zero, List.set_cons_succ])
            refine wpAnyH_take (i := 14) (oi := ({ dst := some 88, op := Go.Op.unOp Go.UnOp.not 4 (Go.Operand.tmp 87), type := 4, pos := "law.go:204", after := #[{ on := 13, ground := Go.Ground.data }, { on := 7, ground := Go.Ground.guard }], guard := some (7, false) } : Go.Oper)) (v := ?v12) rfl (by kernel_rfl) (by kernel_rfl) (by kernel_rfl) (fun _ _ _ h => h) (Or.inl ⟨by rfl, ?hy12⟩) (by assumption) ?rest12
            case hy12 => (intro w hSw; (try dsimp only at hSw); go_simp; (try with_reducible rfl))
            (try simp only [Act.put, List.getElem_toArray, List.getElem_cons_zero, List.getElem_cons_succ, List.setIfInBounds_toArray, List.set_cons_zero, List.set_cons_succ])
            refine wpAnyH_take (i := 15) (oi := ({ dst := some 89, op := Go.Op.pick (Go.Operand.tmp 81) (Go.Operand.const (Go.Value.bool true)) (Go.Operand.tmp 88), type := 4, pos := "law.go:204", after := #[{ on := 7, ground := Go.Ground.data }, { on := 14, ground := Go.Ground.data }, { on := 3, ground := Go.Ground.guard }], guard := some (3, true) } : Go.Oper)) (v := ?v13) rfl (by kernel_rfl) (by kernel_rfl) (by kernel_rfl) (fun _ _ _ h => h) (Or.inl ⟨by rfl, ?hy13⟩) (by assumption) ?rest13
            case hy13 => (intro w hSw; (try dsimp only at hSw); go_simp; (try with_reducible rfl))
            (try simp only [Act.put, List.getElem_toArray, List.getElem_cons_zero, List.getElem_cons_succ, List.setIfInBounds_toArray, List.set_cons_zero, List.set_cons_succ])
            refine wpAnyH_take (i := 16) (oi := ({ dst := some 90, op := Go.Op.move (Go.Operand.tmp 89), type := 4, pos := "law.go:204", after := #[{ on := 15, ground := Go.Ground.data }, { on := 13, ground := Go.Ground.chain }, { on := 3, ground := Go.Ground.guard }], guard := some (3, true) } : Go.Oper)) (v := ?v14) rfl (by kernel_rfl) (by kernel_rfl) (by kernel_rfl) (fun _ _ _ h => h) (Or.inl ⟨by rfl, ?hy14⟩) (by assumption) ?rest14
            case hy14 => (intro w hSw; (try dsimp only at hSw); go_simp; (try with_reducible rfl))
            (try simp only [Act.put, List.getElem_toArray, List.getElem_cons_zero, List.getElem_cons_succ, List.setIfInBounds_toArray, List.set_cons_zero, List.set_cons_succ])
            refine wpAnyH_take (i := 17) (oi := ({ dst := some 91, op := Go.Op.move (Go.Operand.tmp 0), type := 42, pos := "law.go:204", after := #[{ on := 16, ground := Go.Ground.guard }], guard := some (16, false) } : Go.Oper)) (v := ?v15) rfl (by kernel_rfl) (by kernel_rfl) (by kernel_rfl) (fun _ _ _ h => h) (Or.inl ⟨by rfl, ?hy15⟩) (by assumption) ?rest15
            case hy15 => (intro w hSw; (try dsimp only at hSw); go_simp; (try with_reducible rfl))
            (try simp only [Act.put, List.getElem_toArray, List.getElem_cons_zero, List.getElem_cons_succ, List.setIfInBounds_toArray, List.set_cons_zero, List.set_cons_succ])
            refine wpAnyH_take (i := 18) (oi := ({ dst := some 92, op := Go.Op.move (Go.Operand.tmp 9), type := 3, pos := "law.go:204", after := #[{ on := 16, ground := Go.Ground.guard }], guard := some (16, false) } : Go.Oper)) (v := ?v16) rfl (by kernel_rfl) (by kernel_rfl) (by kernel_rfl) (fun _ _ _ h => h) (Or.inl ⟨by rfl, ?hy16⟩) (by assumption) ?rest16
            case hy16 => (intro w hSw; (try dsimp only at hSw); go_simp; (try with_reducible rfl))
            (try simp only [Act.put, List.getElem_toArray, List.getElem_cons_zero, List.getElem_cons_succ, List.setIfInBounds_toArray, List.set_cons_zero, List.set_cons_succ])
            refine wpAnyH_take (i := 19) (oi := ({ dst := some 93, op := Go.Op.indexAddr 42 (Go.Operand.tmp 91) (Go.Operand.tmp 92), type := 0, pos := "law.go:204", after := #[{ on := 17, ground := Go.Ground.data }, { on := 18, ground := Go.Ground.data }, { on := 16, ground := Go.Ground.guard }], guard := some (16, false) } : Go.Oper)) (v := ?v17) rfl (by kernel_rfl) (by kernel_rfl) (by kernel_rfl) (fun _ _ _ h => h) (Or.inl ⟨by rfl, ?hy17⟩) (by assumption) ?rest17
            case hy17 => (intro w hSw; (try dsimp only at hSw); go_simp; (try with_reducible rfl))
            (try simp only [Act.put, List.getElem_toArray, List.getElem_cons_zero, List.getElem_cons_succ, List.setIfInBounds_toArray, List.set_cons_zero, List.set_cons_succ])
            refine wpAnyH_take (i := 20) (oi := ({ dst := some 94, op := Go.Op.load 25 (Go.Operand.tmp 93), type := 25, pos := "law.go:204", after := #[{ on := 19, ground := Go.Ground.data }, { on := 16, ground := Go.Ground.guard }], guard := some (16, false) } : Go.Oper)) (v := ?v18) rfl (by kernel_rfl) (by kernel_rfl) (by kernel_rfl) (fun _ _ _ h => h) (Or.inl ⟨by rfl, ?hy18⟩) (by assumption) ?rest18
            case hy18 => (intro w hSw; (try dsimp only at hSw); go_simp; (try with_reducible rfl))
            (try simp only [Act.put, List.getElem_toArray, List.getElem_cons_zero, List.getElem_cons_succ, List.setIfInBounds_toArray, List.set_cons_zero, List.set_cons_succ])
            refine wpAnyH_take (i := 22) (oi := ({ dst := some 96, op := Go.Op.move (Go.Operand.tmp 10), type := 22, pos := "law.go:204", after := #[{ on := 16, ground := Go.Ground.guard }], guard := some (16, false) } : Go.Oper)) (v := ?v19) rfl (by kernel_rfl) (by kernel_rfl) (by kernel_rfl) (fun _ _ _ h => h) (Or.inl ⟨by rfl, ?hy19⟩) (by assumption) ?rest19
            case hy19 => (intro w hSw; (try dsimp only at hSw); go_simp; (try with_reducible rfl))
            (try simp only [Act.put, List.getElem_toArray, List.getElem_cons_zero, List.getElem_cons_succ, List.setIfInBounds_toArray, List.set_cons_zero, List.set_cons_succ])
            refine wpAnyH_take (i := 23) (oi := ({ dst := some 97, op := Go.Op.call { callee := Go.Callee.builtin Go.Builtin.len, args := #[Go.Operand.tmp 96], argTypes := #[22] }, type := 3, pos := "law.go:204", after := #[{ on := 22, ground := Go.Ground.data }, { on := 16, ground := Go.Ground.guard }], guard := some (16, false) } : Go.Oper)) (v := ?v20) rfl (by kernel_rfl) (by kernel_rfl) (by kernel_rfl) (fun _ _ _ h => h) (Or.inl ⟨by rfl, ?hy20⟩) (by assumption) ?rest20
            case hy20 => (intro w hSw; (try dsimp only at hSw); go_simp; (try with_reducible rfl))
            (try simp only [Act.put, List.getElem_toArray, List.getElem_cons_zero, List.getElem_cons_succ, List.setIfInBounds_toArray, List.set_cons_zero, List.set_cons_succ])
            refine wpAnyH_ready (rs := [21]) (by kernel_rfl) (by simp) ?_
            refine AllReadyH.cons (o := ({ dst := some 95, op := Go.Op.call { callee := Go.Callee.value (Go.Operand.func 34), args := #[Go.Operand.tmp 94], argTypes := #[25] }, type := 3, pos := "law.go:204", after := #[{ on := 20, ground := Go.Ground.data }, { on := 16, ground := Go.Ground.chain }, { on := 16, ground := Go.Ground.guard }], guard := some (16, false) } : Go.Oper)) rfl (fun K hK => ?_) AllReadyH.nil
            go_simp
            (first | (go_at_call 19; refine (num_any _ _).mono ?_; rintro e w7 ⟨rfl, rfl⟩) | (go_at_call 23; refine (rsame_self _ _ x1 _ (by have := (HF6.out.rd.ext ((Ext.alloc (Ext.rfl_ _) (.cells #[.slice A6 n6 c6, .int .i64 (rdE (wrE x1)).seq, .int .i64 (rdE (wrE x1)).kind, .slice B6 m6 d6] 25)).trans (by with_reducible (repeat (first | exact Ext.rfl_ _ | assumption | refine Ext.drew ?_ | refine Ext.drewN ?_ _ | refine Ext.alloc ?_ _ | refine Ext.trans ?_ (by assumption)))))); rw [HBE.out.2] at this ⊢; exact this) (HR.out.ext (X6.out.trans (by with_reducible (repeat (first | exact Ext.rfl_ _ | assumption | refine Ext.drew ?_ | refine Ext.drewN ?_ _ | refine Ext.alloc ?_ _ | refine Ext.trans ?_ (by assumption))))))).mono ?_; rintro e w8 ⟨rfl, hw8⟩) | (go_at_call 34; refine (size_any _ x1 _ (HR.out.ext (X6.out.trans (by with_reducible (repeat (first | exact Ext.rfl_ _ | assumption | refine Ext.drew ?_ | refine Ext.drewN ?_ _ | refine Ext.alloc ?_ _ | refine Ext.trans ?_ (by assumption))))))).mono ?_; rintro e w9 ⟨rfl, hw9⟩; rw [← HL5.out]))
            (try (go_wp2_with fail))
            refine hK.out _ _ (by (try dsimp only); exact ⟨⟨(box4 HB6.out (by with_reducible (repeat (first | exact Ext.rfl_ _ | assumption | refine Ext.drew ?_ | refine Ext.drewN ?_ _ | refine Ext.alloc ?_ _ | refine Ext.trans ?_ (by assumption))))).1, (box4 HB6.out (by with_reducible (repeat (first | exact Ext.rfl_ _ | assumption | refine Ext.drew ?_ | refine Ext.drewN ?_ _ | refine Ext.alloc ?_ _ | refine Ext.trans ?_ (by assumption))))).2.1, (box4 HB6.out (by with_reducible (repeat (first | exact Ext.rfl_ _ | assumption | refine Ext.drew ?_ | refine Ext.drewN ?_ _ | refine Ext.alloc ?_ _ | refine Ext.trans ?_ (by assumption))))).2.2.1, (box4 HB6.out (by with_reducible (repeat (first | exact Ext.rfl_ _ | assumption | refine Ext.drew ?_ | refine Ext.drewN ?_ _ | refine Ext.alloc ?_ _ | refine Ext.trans ?_ (by assumption))))).2.2.2.1⟩, HS.out _ (X6.out.trans (by with_reducible (repeat (first | exact Ext.rfl_ _ | assumption | refine Ext.drew ?_ | refine Ext.drewN ?_ _ | refine Ext.alloc ?_ _ | refine Ext.trans ?_ (by assumption)))))⟩) (fun hHeld => ?_)
            clear hK K
            (try simp only [Act.put, List.getElem_toArray, List.getElem_cons_zero, List.getElem_cons_succ, List.setIfInBounds_toArray, List.set_cons_zero, List.set_cons_succ])
            refine wpAnyH_take (i := 24) (oi := ({ dst := some 98, op := Go.Op.binOp Go.BinOp.neq 3 (Go.Operand.tmp 95) (Go.Operand.tmp 97) 3, type := 4, pos := "law.go:204", after := #[{ on := 21, ground := Go.Ground.data }, { on := 23, ground := Go.Ground.data }, { on := 16, ground := Go.Ground.guard }], guard := some (16, false) } : Go.Oper)) (v := ?v21) rfl (by kernel_rfl) (by kernel_rfl) (by kernel_rfl) (fun _ _ _ h => h) (Or.inl ⟨by rfl, ?hy21⟩) (by assumption) ?rest21
            case hy21 => (intro w hSw; (try dsimp only at hSw); go_simp; (try with_reducible rfl))
            (try simp only [Act.put, List.getElem_toArray, List.getElem_cons_zero, List.getElem_cons_succ, List.setIfInBounds_toArray, List.set_cons_zero, List.set_cons_succ])
            refine wpAnyH_take (i := 25) (oi := ({ dst := some 99, op := Go.Op.pick (Go.Operand.tmp 90) (Go.Operand.const (Go.Value.bool true)) (Go.Operand.tmp 98), type := 4, pos := "law.go:204", after := #[{ on := 16, ground := Go.Ground.data }, { on := 24, ground := Go.Ground.data }, { on := 3, ground := Go.Ground.guard }], guard := some (3, true) } : Go.Oper)) (v := ?v22) rfl (by kernel_rfl) (by kernel_rfl) (by kernel_rfl) (fun _ _ _ h => h) (Or.inl ⟨by rfl, ?hy22⟩) (by assumption) ?rest22
            case hy22 => (intro w hSw; (try dsimp only at hSw); go_simp; (try with_reducible rfl))
            (try simp only [Act.put, List.getElem_toArray, List.getElem_cons_zero, List.getElem_cons_succ, List.setIfInBounds_toArray, List.set_cons_zero, List.set_cons_succ])
            refine wpAnyH_take (i := 26) (oi := ({ dst := some 100, op := Go.Op.pick (Go.Operand.tmp 77) (Go.Operand.tmp 99) (Go.Operand.const (Go.Value.bool false)), type := 4, pos := "law.go:204", after := #[{ on := 3, ground := Go.Ground.data }, { on := 25, ground := Go.Ground.data }], guard := none } : Go.Oper)) (v := ?v23) rfl (by kernel_rfl) (by kernel_rfl) (by kernel_rfl) (fun _ _ _ h => h) (Or.inl ⟨by rfl, ?hy23⟩) (by assumption) ?rest23
            case hy23 => (intro w hSw; (try dsimp only at hSw); go_simp; (try with_reducible rfl))
            (try simp only [Act.put, List.getElem_toArray, List.getElem_cons_zero, List.getElem_cons_succ, List.setIfInBounds_toArray, List.set_cons_zero, List.set_cons_succ])
            refine wpAnyH_done (by kernel_rfl) ?_ _
            all_goals
              go_wp2
              go_roundw
              case rel => exact ⟨k + 1, by go_num, by omega, by omega, Lib.hid (X6.out.trans (by with_reducible (repeat (first | exact Ext.rfl_ _ | assumption | refine Ext.drew ?_ | refine Ext.drewN ?_ _ | refine Ext.alloc ?_ _ | refine Ext.trans ?_ (by assumption)))))⟩
              case measure => simp [intOf]; omega
          · go_wp2_with fail
            refine wp_region_held_drew (S := (fun _ => True)) (by kernel_rfl) (by (try dsimp only); (try exact trivial)) (fun hHeld => ?_)
            refine wpAnyH_take (i := 0) (oi := ({ dst := some 74, op := Go.Op.move (Go.Operand.tmp 11), type := 31, pos := "law.go:204", after := #[], guard := none } : Go.Oper)) (v := ?v24) rfl (by kernel_rfl) (by kernel_rfl) (by kernel_rfl) (fun _ _ _ h => h) (Or.inl ⟨by rfl, ?hy24⟩) (by assumption) ?rest24
            case hy24 => (intro w hSw; (try dsimp only at hSw); go_simp; (try with_reducible rfl))
            (try simp only [Act.put, List.getElem_toArray, List.getElem_cons_zero, List.getElem_cons_succ, List.setIfInBounds_toArray, List.set_cons_zero, List.set_cons_succ])
            refine wpAnyH_ready (rs := [1]) (by kernel_rfl) (by simp) ?_
            refine AllReadyH.cons (o := ({ dst := some 75, op := Go.Op.call { callee := Go.Callee.value (Go.Operand.func 19), args := #[Go.Operand.tmp 74], argTypes := #[31] }, type := 3, pos := "law.go:204", after := #[{ on := 0, ground := Go.Ground.data }], guard := none } : Go.Oper)) rfl (fun K hK => ?_) AllReadyH.nil
            go_simp
            (go_at_call 19; refine (num_any _ _).mono ?_; rintro e w7 ⟨rfl, rfl⟩)
            (try (go_wp2_with fail))
            refine hK.out _ _ (by (try dsimp only); (try exact trivial)) (fun hHeld => ?_)
            clear hK K
            (try simp only [Act.put, List.getElem_toArray, List.getElem_cons_zero, List.getElem_cons_succ, List.setIfInBounds_toArray, List.set_cons_zero, List.set_cons_succ])
            refine wpAnyH_take (i := 2) (oi := ({ dst := some 76, op := Go.Op.binOp Go.BinOp.eql 3 (Go.Operand.tmp 75) (Go.Operand.const (Go.Value.int Go.IntKind.i64 0)) 3, type := 4, pos := "law.go:204", after := #[{ on := 1, ground := Go.Ground.data }], guard := none } : Go.Oper)) (v := ?v25) rfl (by kernel_rfl) (by kernel_rfl) (by kernel_rfl) (fun _ _ _ h => h) (Or.inl ⟨by rfl, ?hy25⟩) (by assumption) ?rest25
            case hy25 => (intro w hSw; (try dsimp only at hSw); go_simp; (try with_reducible rfl))
            (try simp only [Act.put, List.getElem_toArray, List.getElem_cons_zero, List.getElem_cons_succ, List.setIfInBounds_toArray, List.set_cons_zero, List.set_cons_succ])
            refine wpAnyH_take (i := 3) (oi := ({ dst := some 77, op := Go.Op.move (Go.Operand.tmp 76), type := 4, pos := "law.go:204", after := #[{ on := 2, ground := Go.Ground.data }, { on := 1, ground := Go.Ground.chain }], guard := none } : Go.Oper)) (v := ?v26) rfl (by kernel_rfl) (by kernel_rfl) (by kernel_rfl) (fun _ _ _ h => h) (Or.inl ⟨by rfl, ?hy26⟩) (by assumption) ?rest26
            case hy26 => (intro w hSw; (try dsimp only at hSw); go_simp; (try with_reducible rfl))
            (try simp only [Act.put, List.getElem_toArray, List.getElem_cons_zero, List.getElem_cons_succ, List.setIfInBounds_toArray, List.set_cons_zero, List.set_cons_succ])
            refine wpAnyH_take (i := 4) (oi := ({ dst := some 78, op := Go.Op.move (Go.Operand.tmp 13), type := 31, pos := "law.go:204", after := #[{ on := 3, ground := Go.Ground.guard }], guard := some (3, true) } : Go.Oper)) (v := undef) rfl (by kernel_rfl) (by kernel_rfl) (by kernel_rfl) (fun _ _ _ h => h) (Or.inr ⟨by rfl, rfl⟩) (by assumption) ?_
            (try simp only [Act.put, List.getElem_toArray, List.getElem_cons_zero, List.getElem_cons_succ, List.setIfInBounds_toArray, List.set_cons_zero, List.set_cons_succ])
            refine wpAnyH_take (i := 5) (oi := ({ dst := some 79, op := Go.Op.call { callee := Go.Callee.value (Go.Operand.func 19), args := #[Go.Operand.tmp 78], argTypes := #[31] }, type := 3, pos := "law.go:204", after := #[{ on := 4, ground := Go.Ground.data }, { on := 3, ground := Go.Ground.chain }, { on := 3, ground := Go.Ground.guard }], guard := some (3, true) } : Go.Oper)) (v := undef) rfl (by kernel_rfl) (by kernel_rfl) (by kernel_rfl) (fun _ _ _ h => h) (Or.inr ⟨by rfl, rfl⟩) (by assumption) ?_
            (try simp only [Act.put, List.getElem_toArray, List.getElem_cons_zero, List.getElem_cons_succ, List.setIfInBounds_toArray, List.set_cons_zero, List.set_cons_succ])
            refine wpAnyH_take (i := 6) (oi := ({ dst := some 80, op := Go.Op.binOp Go.BinOp.neq 3 (Go.Operand.tmp 79) (Go.Operand.const (Go.Value.int Go.IntKind.i64 0)) 3, type := 4, pos := "law.go:204", after := #[{ on := 5, ground := Go.Ground.data }, { on := 3, ground := Go.Ground.guard }], guard := some (3, true) } : Go.Oper)) (v := undef) rfl (by kernel_rfl) (by kernel_rfl) (by kernel_rfl) (fun _ _ _ h => h) (Or.inr ⟨by rfl, rfl⟩) (by assumption) ?_
            (try simp only [Act.put, List.getElem_toArray, List.getElem_cons_zero, List.getElem_cons_succ, List.setIfInBounds_toArray, List.set_cons_zero, List.set_cons_succ])
            refine wpAnyH_take (i := 7) (oi := ({ dst := some 81, op := Go.Op.move (Go.Operand.tmp 80), type := 4, pos := "law.go:204", after := #[{ on := 6, ground := Go.Ground.data }, { on := 5, ground := Go.Ground.chain }, { on := 3, ground := Go.Ground.guard }], guard := some (3, true) } : Go.Oper)) (v := undef) rfl (by kernel_rfl) (by kernel_rfl) (by kernel_rfl) (fun _ _ _ h => h) (Or.inr ⟨by rfl, rfl⟩) (by assumption) ?_
            (try simp only [Act.put, List.getElem_toArray, List.getElem_cons_zero, List.getElem_cons_succ, List.setIfInBounds_toArray, List.set_cons_zero, List.set_cons_succ])
            refine wpAnyH_take (i := 8) (oi := ({ dst := some 82, op := Go.Op.load 25 (Go.Operand.tmp 12), type := 25, pos := "law.go:204", after := #[{ on := 7, ground := Go.Ground.guard }], guard := some (7, false) } : Go.Oper)) (v := undef) rfl (by kernel_rfl) (by kernel_rfl) (by kernel_rfl) (fun _ _ _ h => h) (Or.inr ⟨by rfl, rfl⟩) (by assumption) ?_
            (try simp only [Act.put, List.getElem_toArray, List.getElem_cons_zero, List.getElem_cons_succ, List.setIfInBounds_toArray, List.set_cons_zero, List.set_cons_succ])
            refine wpAnyH_take (i := 9) (oi := ({ dst := some 83, op := Go.Op.move (Go.Operand.tmp 0), type := 42, pos := "law.go:204", after := #[{ on := 7, ground := Go.Ground.guard }], guard := some (7, false) } : Go.Oper)) (v := undef) rfl (by kernel_rfl) (by kernel_rfl) (by kernel_rfl) (fun _ _ _ h => h) (Or.inr ⟨by rfl, rfl⟩) (by assumption) ?_
            (try simp only [Act.put, List.getElem_toArray, List.getElem_cons_zero, List.getElem_cons_succ, List.setIfInBounds_toArray, List.set_cons_zero, List.set_cons_succ])
            refine wpAnyH_take (i := 10) (oi := ({ dst := some 84, op := Go.Op.move (Go.Operand.tmp 9), type := 3, pos := "law.go:204", after := #[{ on := 7, ground := Go.Ground.guard }], guard := some (7, false) } : Go.Oper)) (v := undef) rfl (by kernel_rfl) (by kernel_rfl) (by kernel_rfl) (fun _ _ _ h => h) (Or.inr ⟨by rfl, rfl⟩) (by assumption) ?_
            (try simp only [Act.put, List.getElem_toArray, List.getElem_cons_zero, List.getElem_cons_succ, List.setIfInBounds_toArray, List.set_cons_zero, List.set_cons_succ])
            refine wpAnyH_take (i := 11) (oi := ({ dst := some 85, op := Go.Op.indexAddr 42 (Go.Operand.tmp 83) (Go.Operand.tmp 84), type := 0, pos := "law.go:204", after := #[{ on := 9, ground := Go.Ground.data }, { on := 10, ground := Go.Ground.data }, { on := 7, ground := Go.Ground.guard }], guard := some (7, false) } : Go.Oper)) (v := undef) rfl (by kernel_rfl) (by kernel_rfl) (by kernel_rfl) (fun _ _ _ h => h) (Or.inr ⟨by rfl, rfl⟩) (by assumption) ?_
            (try simp only [Act.put, List.getElem_toArray, List.getElem_cons_zero, List.getElem_cons_succ, List.setIfInBounds_toArray, List.set_cons_zero, List.set_cons_succ])
            refine wpAnyH_take (i := 12) (oi := ({ dst := some 86, op := Go.Op.load 25 (Go.Operand.tmp 85), type := 25, pos := "law.go:204", after := #[{ on := 11, ground := Go.Ground.data }, { on := 7, ground := Go.Ground.guard }], guard := some (7, false) } : Go.Oper)) (v := undef) rfl (by kernel_rfl) (by kernel_rfl) (by kernel_rfl) (fun _ _ _ h => h) (Or.inr ⟨by rfl, rfl⟩) (by assumption) ?_
            (try simp only [Act.put, List.getElem_toArray, List.getElem_cons_zero, List.getElem_cons_succ, List.setIfInBounds_toArray, List.set_cons_zero, List.set_cons_succ])
            refine wpAnyH_take (i := 13) (oi := ({ dst := some 87, op := Go.Op.call { callee := Go.Callee.value (Go.Operand.func 23), args := #[Go.Operand.tmp 82, Go.Operand.tmp 86], argTypes := #[25, 25] }, type := 4, pos := "law.go:204", after := #[{ on := 8, ground := Go.Ground.data }, { on := 12, ground := Go.Ground.data }, { on := 7, ground := Go.Ground.chain }, { on := 7, ground := Go.Ground.guard }], guard := some (7, false) } : Go.Oper)) (v := undef) rfl (by kernel_rfl) (by kernel_rfl) (by kernel_rfl) (fun _ _ _ h => h) (Or.inr ⟨by rfl, rfl⟩) (by assumption) ?_
            (try simp only [Act.put, List.getElem_toArray, List.getElem_cons_zero, List.getElem_cons_succ, List.setIfInBounds_toArray, List.set_cons_zero, List.set_cons_succ])
            refine wpAnyH_take (i := 14) (oi := ({ dst := some 88, op := Go.Op.unOp Go.UnOp.not 4 (Go.Operand.tmp 87), type := 4, pos := "law.go:204", after := #[{ on := 13, ground := Go.Ground.data }, { on := 7, ground := Go.Ground.guard }], guard := some (7, false) } : Go.Oper)) (v := undef) rfl (by kernel_rfl) (by kernel_rfl) (by kernel_rfl) (fun _ _ _ h => h) (Or.inr ⟨by rfl, rfl⟩) (by assumption) ?_
            (try simp only [Act.put, List.getElem_toArray, List.getElem_cons_zero, List.getElem_cons_succ, List.setIfInBounds_toArray, List.set_cons_zero, List.set_cons_succ])
            refine wpAnyH_take (i := 15) (oi := ({ dst := some 89, op := Go.Op.pick (Go.Operand.tmp 81) (Go.Operand.const (Go.Value.bool true)) (Go.Operand.tmp 88), type := 4, pos := "law.go:204", after := #[{ on := 7, ground := Go.Ground.data }, { on := 14, ground := Go.Ground.data }, { on := 3, ground := Go.Ground.guard }], guard := some (3, true) } : Go.Oper)) (v := undef) rfl (by kernel_rfl) (by kernel_rfl) (by kernel_rfl) (fun _ _ _ h => h) (Or.inr ⟨by rfl, rfl⟩) (by assumption) ?_
            (try simp only [Act.put, List.getElem_toArray, List.getElem_cons_zero, List.getElem_cons_succ, List.setIfInBounds_toArray, List.set_cons_zero, List.set_cons_succ])
            refine wpAnyH_take (i := 16) (oi := ({ dst := some 90, op := Go.Op.move (Go.Operand.tmp 89), type := 4, pos := "law.go:204", after := #[{ on := 15, ground := Go.Ground.data }, { on := 13, ground := Go.Ground.chain }, { on := 3, ground := Go.Ground.guard }], guard := some (3, true) } : Go.Oper)) (v := undef) rfl (by kernel_rfl) (by kernel_rfl) (by kernel_rfl) (fun _ _ _ h => h) (Or.inr ⟨by rfl, rfl⟩) (by assumption) ?_
            (try simp only [Act.put, List.getElem_toArray, List.getElem_cons_zero, List.getElem_cons_succ, List.setIfInBounds_toArray, List.set_cons_zero, List.set_cons_succ])
            refine wpAnyH_take (i := 17) (oi := ({ dst := some 91, op := Go.Op.move (Go.Operand.tmp 0), type := 42, pos := "law.go:204", after := #[{ on := 16, ground := Go.Ground.guard }], guard := some (16, false) } : Go.Oper)) (v := undef) rfl (by kernel_rfl) (by kernel_rfl) (by kernel_rfl) (fun _ _ _ h => h) (Or.inr ⟨by rfl, rfl⟩) (by assumption) ?_
            (try simp only [Act.put, List.getElem_toArray, List.getElem_cons_zero, List.getElem_cons_succ, List.setIfInBounds_toArray, List.set_cons_zero, List.set_cons_succ])
            refine wpAnyH_take (i := 18) (oi := ({ dst := some 92, op := Go.Op.move (Go.Operand.tmp 9), type := 3, pos := "law.go:204", after := #[{ on := 16, ground := Go.Ground.guard }], guard := some (16, false) } : Go.Oper)) (v := undef) rfl (by kernel_rfl) (by kernel_rfl) (by kernel_rfl) (fun _ _ _ h => h) (Or.inr ⟨by rfl, rfl⟩) (by assumption) ?_
            (try simp only [Act.put, List.getElem_toArray, List.getElem_cons_zero, List.getElem_cons_succ, List.setIfInBounds_toArray, List.set_cons_zero, List.set_cons_succ])
            refine wpAnyH_take (i := 19) (oi := ({ dst := some 93, op := Go.Op.indexAddr 42 (Go.Operand.tmp 91) (Go.Operand.tmp 92), type := 0, pos := "law.go:204", after := #[{ on := 17, ground := Go.Ground.data }, { on := 18, ground := Go.Ground.data }, { on := 16, ground := Go.Ground.guard }], guard := some (16, false) } : Go.Oper)) (v := undef) rfl (by kernel_rfl) (by kernel_rfl) (by kernel_rfl) (fun _ _ _ h => h) (Or.inr ⟨by rfl, rfl⟩) (by assumption) ?_
            (try simp only [Act.put, List.getElem_toArray, List.getElem_cons_zero, List.getElem_cons_succ, List.setIfInBounds_toArray, List.set_cons_zero, List.set_cons_succ])
            refine wpAnyH_take (i := 20) (oi := ({ dst := some 94, op := Go.Op.load 25 (Go.Operand.tmp 93), type := 25, pos := "law.go:204", after := #[{ on := 19, ground := Go.Ground.data }, { on := 16, ground := Go.Ground.guard }], guard := some (16, false) } : Go.Oper)) (v := undef) rfl (by kernel_rfl) (by kernel_rfl) (by kernel_rfl) (fun _ _ _ h => h) (Or.inr ⟨by rfl, rfl⟩) (by assumption) ?_
            (try simp only [Act.put, List.getElem_toArray, List.getElem_cons_zero, List.getElem_cons_succ, List.setIfInBounds_toArray, List.set_cons_zero, List.set_cons_succ])
            refine wpAnyH_take (i := 21) (oi := ({ dst := some 95, op := Go.Op.call { callee := Go.Callee.value (Go.Operand.func 34), args := #[Go.Operand.tmp 94], argTypes := #[25] }, type := 3, pos := "law.go:204", after := #[{ on := 20, ground := Go.Ground.data }, { on := 16, ground := Go.Ground.chain }, { on := 16, ground := Go.Ground.guard }], guard := some (16, false) } : Go.Oper)) (v := undef) rfl (by kernel_rfl) (by kernel_rfl) (by kernel_rfl) (fun _ _ _ h => h) (Or.inr ⟨by rfl, rfl⟩) (by assumption) ?_
            (try simp only [Act.put, List.getElem_toArray, List.getElem_cons_zero, List.getElem_cons_succ, List.setIfInBounds_toArray, List.set_cons_zero, List.set_cons_succ])
            refine wpAnyH_take (i := 22) (oi := ({ dst := some 96, op := Go.Op.move (Go.Operand.tmp 10), type := 22, pos := "law.go:204", after := #[{ on := 16, ground := Go.Ground.guard }], guard := some (16, false) } : Go.Oper)) (v := undef) rfl (by kernel_rfl) (by kernel_rfl) (by kernel_rfl) (fun _ _ _ h => h) (Or.inr ⟨by rfl, rfl⟩) (by assumption) ?_
            (try simp only [Act.put, List.getElem_toArray, List.getElem_cons_zero, List.getElem_cons_succ, List.setIfInBounds_toArray, List.set_cons_zero, List.set_cons_succ])
            refine wpAnyH_take (i := 23) (oi := ({ dst := some 97, op := Go.Op.call { callee := Go.Callee.builtin Go.Builtin.len, args := #[Go.Operand.tmp 96], argTypes := #[22] }, type := 3, pos := "law.go:204", after := #[{ on := 22, ground := Go.Ground.data }, { on := 16, ground := Go.Ground.guard }], guard := some (16, false) } : Go.Oper)) (v := undef) rfl (by kernel_rfl) (by kernel_rfl) (by kernel_rfl) (fun _ _ _ h => h) (Or.inr ⟨by rfl, rfl⟩) (by assumption) ?_
            (try simp only [Act.put, List.getElem_toArray, List.getElem_cons_zero, List.getElem_cons_succ, List.setIfInBounds_toArray, List.set_cons_zero, List.set_cons_succ])
            refine wpAnyH_take (i := 24) (oi := ({ dst := some 98, op := Go.Op.binOp Go.BinOp.neq 3 (Go.Operand.tmp 95) (Go.Operand.tmp 97) 3, type := 4, pos := "law.go:204", after := #[{ on := 21, ground := Go.Ground.data }, { on := 23, ground := Go.Ground.data }, { on := 16, ground := Go.Ground.guard }], guard := some (16, false) } : Go.Oper)) (v := undef) rfl (by kernel_rfl) (by kernel_rfl) (by kernel_rfl) (fun _ _ _ h => h) (Or.inr ⟨by rfl, rfl⟩) (by assumption) ?_
            (try simp only [Act.put, List.getElem_toArray, List.getElem_cons_zero, List.getElem_cons_succ, List.setIfInBounds_toArray, List.set_cons_zero, List.set_cons_succ])
            refine wpAnyH_take (i := 25) (oi := ({ dst := some 99, op := Go.Op.pick (Go.Operand.tmp 90) (Go.Operand.const (Go.Value.bool true)) (Go.Operand.tmp 98), type := 4, pos := "law.go:204", after := #[{ on := 16, ground := Go.Ground.data }, { on := 24, ground := Go.Ground.data }, { on := 3, ground := Go.Ground.guard }], guard := some (3, true) } : Go.Oper)) (v := undef) rfl (by kernel_rfl) (by kernel_rfl) (by kernel_rfl) (fun _ _ _ h => h) (Or.inr ⟨by rfl, rfl⟩) (by assumption) ?_
            (try simp only [Act.put, List.getElem_toArray, List.getElem_cons_zero, List.getElem_cons_succ, List.setIfInBounds_toArray, List.set_cons_zero, List.set_cons_succ])
            refine wpAnyH_take (i := 26) (oi := ({ dst := some 100, op := Go.Op.pick (Go.Operand.tmp 77) (Go.Operand.tmp 99) (Go.Operand.const (Go.Value.bool false)), type := 4, pos := "law.go:204", after := #[{ on := 3, ground := Go.Ground.data }, { on := 25, ground := Go.Ground.data }], guard := none } : Go.Oper)) (v := ?v27) rfl (by kernel_rfl) (by kernel_rfl) (by kernel_rfl) (fun _ _ _ h => h) (Or.inl ⟨by rfl, ?hy27⟩) (by assumption) ?rest27
            case hy27 => (intro w hSw; (try dsimp only at hSw); go_simp; (try with_reducible rfl))
            (try simp only [Act.put, List.getElem_toArray, List.getElem_cons_zero, List.getElem_cons_succ, List.setIfInBounds_toArray, List.set_cons_zero, List.set_cons_succ])
            refine wpAnyH_done (by kernel_rfl) ?_ _
            all_goals
              go_wp2
              go_roundw
              case rel => exact ⟨k + 1, by go_num, by omega, by omega, Lib.hid (X6.out.trans (by with_reducible (repeat (first | exact Ext.rfl_ _ | assumption | refine Ext.drew ?_ | refine Ext.drewN ?_ _ | refine Ext.alloc ?_ _ | refine Ext.trans ?_ (by assumption)))))⟩
              case measure => simp [intOf]; omega
        · skip
          by_cases h3 : (100000 : Int) < (m : Int)
          · go_wp2
            go_ret
            exact ⟨rfl, XT.out⟩
          go_wp2_with fail
          refine (read_any B m d x _ (HX.out.ext XT.out) (by unfold B40; omega)).mono ?_
          rintro e w5 ⟨v5, rfl, hf5, hw5⟩
          have HF5 := Lib.hid hf5
          obtain ⟨A5, n5, c5, B5, m5, d5, rfl, _, _, _, _, b1, b2, b3, b4, _, _⟩ := hf5
          have HB5 := Lib.hid (blk1 w5 (.cells #[.slice A5 n5 c5, .int .i64 (rdE x).seq, .int .i64 (rdE x).kind, .slice B5 m5 d5] 25))
          have XT5 := Lib.hid (XT.out.trans hw5)
          clear hw5
          obtain ⟨k0, k1, k2, k3, l0, l1, l2, l3⟩ := box4 HB5.out (w' := w5.alloc (.cells #[.slice A5 n5 c5, .int .i64 (rdE x).seq, .int .i64 (rdE x).kind, .slice B5 m5 d5] 25)) (Ext.rfl_ _)
          go_wp2_with fail
          refine (bytes_any _ (rdE x) _ (HF5.out.rd.ext (Ext.alloc (Ext.rfl_ _) _))).mono ?_
          rintro e w6 ⟨v6, rfl, o6, hw6⟩
          obtain ⟨A6, n6, c6, rfl, _, r6, _⟩ := o6.formN
          have R6 := Lib.hid r6
          have XT6 := Lib.hid ((XT5.out.alloc _).trans hw6)
          clear o6 r6 hw6 k0 k1 k2 k3 l0 l1 l2 l3
          rcases HE.out with hr | hr
          all_goals have S6 : Hid (rdN x = 0 → Rd w6 A6 n6 x) := Lib.hid (fun h0 => (by have := R6.out; rwa [(again_e h0).2] at this))
          · have hwe := (again_e hr).1
            have s1 := (S6.out hr).str (P := Try.prog) c6 22 5 9 Try.underlying22 Try.underlying5 Try.underlying9
            have s2 := (HX.out.ext XT6.out).str (P := Try.prog) d 22 5 9 Try.underlying22 Try.underlying5 Try.underlying9
            go_wp2_with fail
            refine (num_any _ _).mono ?_
            rintro e w7 ⟨rfl, rfl⟩
            go_wp2_with fail
            refine (num_any _ _).mono ?_
            rintro e w7 ⟨rfl, rfl⟩
            go_wp2_with fail
            refine (lists_any B m d x _ (HX.out.ext XT6.out) (by unfold B40; omega)).mono ?_
            rintro e w8 ⟨v8, b8, rfl, _, o8, hw8⟩
            obtain ⟨A8, n8, c8, rfl, _, r8, _⟩ := o8.formN (Nat.le_trans (rdL_len x) (by unfold B41; omega))
            have R8 := Lib.hid r8
            have XT8 := Lib.hid (XT6.out.trans hw8)
            clear o8 r8 hw8
            go_wp2_with fail
            refine (list_any A8 n8 c8 (rdL x) _ R8.out).mono ?_
            rintro e w9 ⟨v9, rfl, o9, hw9⟩
            obtain ⟨A9, n9, c9, rfl, _, r9, _⟩ := o9.formN
            have R9 := Lib.hid r9
            have XT9 := Lib.hid (XT8.out.trans hw9)
            clear o9 r9 hw9
            rcases HLE.out with hq | hq
            all_goals have S9 : Hid (rdLN x = 0 → Rd w9 A9 n9 x) := Lib.hid (fun h0 => (by have := R9.out; rwa [(again_l h0).2] at this))
            · have hwq := (again_l hq).1
              have s3 := (S9.out hq).str (P := Try.prog) c9 22 5 9 Try.underlying22 Try.underlying5 Try.underlying9
              have s4 := (HX.out.ext XT9.out).str (P := Try.prog) d 22 5 9 Try.underlying22 Try.underlying5 Try.underlying9
              go_wp2_with fail
              refine (num_any _ _).mono ?_
              rintro e wa ⟨rfl, rfl⟩
              go_wp2_with fail
              refine (num_any _ _).mono ?_
              rintro e wa ⟨rfl, rfl⟩
              go_wp2
              go_ret
              exact ⟨rfl, XT9.out⟩
            · go_wp2_with fail
              refine (num_any _ _).mono ?_
              rintro e wa ⟨rfl, rfl⟩
              go_wp2
              go_ret
              exact ⟨rfl, XT9.out⟩
          · go_wp2_with fail
            refine (num_any _ _).mono ?_
            rintro e w7 ⟨rfl, rfl⟩
            go_wp2_with fail
            refine (lists_any B m d x _ (HX.out.ext XT6.out) (by unfold B40; omega)).mono ?_
            rintro e w8 ⟨v8, b8, rfl, _, o8, hw8⟩
            obtain ⟨A8, n8, c8, rfl, _, r8, _⟩ := o8.formN (Nat.le_trans (rdL_len x) (by unfold B41; omega))
            have R8 := Lib.hid r8
            have XT8 := Lib.hid (XT6.out.trans hw8)
            clear o8 r8 hw8
            go_wp2_with fail
            refine (list_any A8 n8 c8 (rdL x) _ R8.out).mono ?_
            rintro e w9 ⟨v9, rfl, o9, hw9⟩
            obtain ⟨A9, n9, c9, rfl, _, r9, _⟩ := o9.formN
            have R9 := Lib.hid r9
            have XT9 := Lib.hid (XT8.out.trans hw9)
            clear o9 r9 hw9
            rcases HLE.out with hq | hq
            all_goals have S9 : Hid (rdLN x = 0 → Rd w9 A9 n9 x) := Lib.hid (fun h0 => (by have := R9.out; rwa [(again_l h0).2] at this))
            · have hwq := (again_l hq).1
              have s3 := (S9.out hq).str (P := Try.prog) c9 22 5 9 Try.underlying22 Try.underlying5 Try.underlying9
              have s4 := (HX.out.ext XT9.out).str (P := Try.prog) d 22 5 9 Try.underlying22 Try.underlying5 Try.underlying9
              go_wp2_with fail
              refine (num_any _ _).mono ?_
              rintro e wa ⟨rfl, rfl⟩
              go_wp2_with fail
              refine (num_any _ _).mono ?_
              rintro e wa ⟨rfl, rfl⟩
              go_wp2
              go_ret
              exact ⟨rfl, XT9.out⟩
            · go_wp2_with fail
              refine (num_any _ _).mono ?_
              rintro e wa ⟨rfl, rfl⟩
              go_wp2
              go_ret
              exact ⟨rfl, XT9.out⟩
      · skip
        by_cases h3 : (100000 : Int) < (m : Int)
        · go_wp2
          go_ret
          exact ⟨rfl, XT.out⟩
        go_wp2_with fail
        refine (read_any B m d x _ (HX.out.ext XT.out) (by unfold B40; omega)).mono ?_
        rintro e w5 ⟨v5, rfl, hf5, hw5⟩
        have HF5 := Lib.hid hf5
        obtain ⟨A5, n5, c5, B5, m5, d5, rfl, _, _, _, _, b1, b2, b3, b4, _, _⟩ := hf5
        have HB5 := Lib.hid (blk1 w5 (.cells #[.slice A5 n5 c5, .int .i64 (rdE x).seq, .int .i64 (rdE x).kind, .slice B5 m5 d5] 25))
        have XT5 := Lib.hid (XT.out.trans hw5)
        clear hw5
        obtain ⟨k0, k1, k2, k3, l0, l1, l2, l3⟩ := box4 HB5.out (w' := w5.alloc (.cells #[.slice A5 n5 c5, .int .i64 (rdE x).seq, .int .i64 (rdE x).kind, .slice B5 m5 d5] 25)) (Ext.rfl_ _)
        go_wp2_with fail
        refine (bytes_any _ (rdE x) _ (HF5.out.rd.ext (Ext.alloc (Ext.rfl_ _) _))).mono ?_
        rintro e w6 ⟨v6, rfl, o6, hw6⟩
        obtain ⟨A6, n6, c6, rfl, _, r6, _⟩ := o6.formN
        have R6 := Lib.hid r6
        have XT6 := Lib.hid ((XT5.out.alloc _).trans hw6)
        clear o6 r6 hw6 k0 k1 k2 k3 l0 l1 l2 l3
        rcases HE.out with hr | hr
        all_goals have S6 : Hid (rdN x = 0 → Rd w6 A6 n6 x) := Lib.hid (fun h0 => (by have := R6.out; rwa [(again_e h0).2] at this))
        · have hwe := (again_e hr).1
          have s1 := (S6.out hr).str (P := Try.prog) c6 22 5 9 Try.underlying22 Try.underlying5 Try.underlying9
          have s2 := (HX.out.ext XT6.out).str (P := Try.prog) d 22 5 9 Try.underlying22 Try.underlying5 Try.underlying9
          go_wp2_with fail
          refine (num_any _ _).mono ?_
          rintro e w7 ⟨rfl, rfl⟩
          go_wp2_with fail
          refine (num_any _ _).mono ?_
          rintro e w7 ⟨rfl, rfl⟩
          go_wp2_with fail
          refine (lists_any B m d x _ (HX.out.ext XT6.out) (by unfold B40; omega)).mono ?_
          rintro e w8 ⟨v8, b8, rfl, _, o8, hw8⟩
          obtain ⟨A8, n8, c8, rfl, _, r8, _⟩ := o8.formN (Nat.le_trans (rdL_len x) (by unfold B41; omega))
          have R8 := Lib.hid r8
          have XT8 := Lib.hid (XT6.out.trans hw8)
          clear o8 r8 hw8
          go_wp2_with fail
          refine (list_any A8 n8 c8 (rdL x) _ R8.out).mono ?_
          rintro e w9 ⟨v9, rfl, o9, hw9⟩
          obtain ⟨A9, n9, c9, rfl, _, r9, _⟩ := o9.formN
          have R9 := Lib.hid r9
          have XT9 := Lib.hid (XT8.out.trans hw9)
          clear o9 r9 hw9
          rcases HLE.out with hq | hq
          all_goals have S9 : Hid (rdLN x = 0 → Rd w9 A9 n9 x) := Lib.hid (fun h0 => (by have := R9.out; rwa [(again_l h0).2] at this))
          · have hwq := (again_l hq).1
            have s3 := (S9.out hq).str (P := Try.prog) c9 22 5 9 Try.underlying22 Try.underlying5 Try.underlying9
            have s4 := (HX.out.ext XT9.out).str (P := Try.prog) d 22 5 9 Try.underlying22 Try.underlying5 Try.underlying9
            go_wp2_with fail
            refine (num_any _ _).mono ?_
            rintro e wa ⟨rfl, rfl⟩
            go_wp2_with fail
            refine (num_any _ _).mono ?_
            rintro e wa ⟨rfl, rfl⟩
            go_wp2
            go_ret
            exact ⟨rfl, XT9.out⟩
          · go_wp2_with fail
            refine (num_any _ _).mono ?_
            rintro e wa ⟨rfl, rfl⟩
            go_wp2
            go_ret
            exact ⟨rfl, XT9.out⟩
        · go_wp2_with fail
          refine (num_any _ _).mono ?_
          rintro e w7 ⟨rfl, rfl⟩
          go_wp2_with fail
          refine (lists_any B m d x _ (HX.out.ext XT6.out) (by unfold B40; omega)).mono ?_
          rintro e w8 ⟨v8, b8, rfl, _, o8, hw8⟩
          obtain ⟨A8, n8, c8, rfl, _, r8, _⟩ := o8.formN (Nat.le_trans (rdL_len x) (by unfold B41; omega))
          have R8 := Lib.hid r8
          have XT8 := Lib.hid (XT6.out.trans hw8)
          clear o8 r8 hw8
          go_wp2_with fail
          refine (list_any A8 n8 c8 (rdL x) _ R8.out).mono ?_
          rintro e w9 ⟨v9, rfl, o9, hw9⟩
          obtain ⟨A9, n9, c9, rfl, _, r9, _⟩ := o9.formN
          have R9 := Lib.hid r9
          have XT9 := Lib.hid (XT8.out.trans hw9)
          clear o9 r9 hw9
          rcases HLE.out with hq | hq
          all_goals have S9 : Hid (rdLN x = 0 → Rd w9 A9 n9 x) := Lib.hid (fun h0 => (by have := R9.out; rwa [(again_l h0).2] at this))
          · have hwq := (again_l hq).1
            have s3 := (S9.out hq).str (P := Try.prog) c9 22 5 9 Try.underlying22 Try.underlying5 Try.underlying9
            have s4 := (HX.out.ext XT9.out).str (P := Try.prog) d 22 5 9 Try.underlying22 Try.underlying5 Try.underlying9
            go_wp2_with fail
            refine (num_any _ _).mono ?_
            rintro e wa ⟨rfl, rfl⟩
            go_wp2_with fail
            refine (num_any _ _).mono ?_
            rintro e wa ⟨rfl, rfl⟩
            go_wp2
            go_ret
            exact ⟨rfl, XT9.out⟩
          · go_wp2_with fail
            refine (num_any _ _).mono ?_
            rintro e wa ⟨rfl, rfl⟩
            go_wp2
            go_ret
            exact ⟨rfl, XT9.out⟩
  · skip
    go_wp2_with fail
    refine (num_any _ _).mono ?_
    rintro e wa ⟨rfl, rfl⟩
    have X5 := X4
    go_wp2
    go_loopw [9] (fun i wr => ∃ k : Nat, i = .int .i64 k ∧ k ≤ n ∧ k ≤ 100 ∧ Hid (Ext w wr)) (fun i _ => n - (intOf i).toNat)
    case atStart => exact ⟨0, rfl, Nat.zero_le _, by omega, X5⟩
    case round =>
      obtain ⟨k, rfl, hk, hk1, XT⟩ := hrel
      by_cases c1 : (k : Int) < (n : Int)
      · by_cases c2 : (k : Int) < 100
        · obtain ⟨b, o, A1, n1, c1', A1', n1', c1'', x1, rfl, hx1, ⟨q0, q1, q2, q3⟩, hr⟩ := HL.out.at_ k (by omega)
          have hS : ∀ W, Ext w W → (W.cell? ⟨b, o + k * 4, none⟩ = some (.slice A1 n1 c1') ∧ W.cell? ⟨b, o + k * 4 + 1, none⟩ = some (.int .i64 x1.seq) ∧ W.cell? ⟨b, o + k * 4 + 2, none⟩ = some (.int .i64 x1.kind) ∧ W.cell? ⟨b, o + k * 4 + 3, none⟩ = some (.slice A1' n1' c1'')) := fun W K =>
            ⟨K.keeps _ _ _ q0, K.keeps _ _ _ q1, K.keeps _ _ _ q2, K.keeps _ _ _ q3⟩
          have HS := Lib.hid hS
          have HR := Lib.hid hr
          clear hS hr hx1 q0 q1 q2 q3
          obtain ⟨q0, q1, q2, q3⟩ := HS.out _ XT.out
          go_wp2_with fail
          refine (bytes_any _ x1 _ (HR.out.ext XT.out)).mono ?_
          rintro e w5 ⟨v5, rfl, o5, hw5⟩
          obtain ⟨A5, n5, c5, rfl, _, r5, _⟩ := o5.formN
          have hn5 : n5 ≤ B40 := by rw [← r5.1]; have := wrE_len x1; unfold B40; omega
          have hl5 : (n5 : Int) = ((wrE x1).length : Int) := by rw [r5.1]
          have R5 := Lib.hid r5
          have HL5 := Lib.hid hl5
          have X5 := Lib.hid (XT.out.trans hw5)
          clear o5 r5 hw5 q0 q1 q2 q3 hl5
          go_wp2_with fail
          refine (read_any A5 n5 c5 (wrE x1) _ R5.out hn5).mono ?_
          rintro e w6 ⟨v6, rfl, hf6, hw6⟩
          have HF6 := Lib.hid hf6
          obtain ⟨A6, n6, c6, B6, m6, d6, rfl, _, _, _, _, b1, b2, b3, b4, _, _⟩ := hf6
          have HB6 := Lib.hid (blk1 w6 (.cells #[.slice A6 n6 c6, .int .i64 (rdE (wrE x1)).seq, .int .i64 (rdE (wrE x1)).kind, .slice B6 m6 d6] 25))
          have x6 : Ext w (w6.alloc (.cells #[.slice A6 n6 c6, .int .i64 (rdE (wrE x1)).seq, .int .i64 (rdE (wrE x1)).kind, .slice B6 m6 d6] 25)) := (X5.out.trans hw6).alloc _
          have X6 := Lib.hid x6
          clear hw6 x6 hn5
          rcases wrN_or x1 with hr | hr
          · have HBE := Lib.hid (back_e hr)
            have hb0 := (back_e hr).1
            go_wp2_with fail
            refine wp_region_held_drew (S := (fun W => (W.cell? ⟨w6.heap.size, 0, none⟩ = some (.slice A6 n6 c6) ∧ W.cell? ⟨w6.heap.size, 1, none⟩ = some (.int .i64 (rdE (wrE x1)).seq) ∧ W.cell? ⟨w6.heap.size, 2, none⟩ = some (.int .i64 (rdE (wrE x1)).kind) ∧ W.cell? ⟨w6.heap.size, 3, none⟩ = some (.slice B6 m6 d6)) ∧ W.cell? ⟨b, o + k * 4, none⟩ = some (.slice A1 n1 c1') ∧ W.cell? ⟨b, o + k * 4 + 1, none⟩ = some (.int .i64 x1.seq) ∧ W.cell? ⟨b, o + k * 4 + 2, none⟩ = some (.int .i64 x1.kind) ∧ W.cell? ⟨b, o + k * 4 + 3, none⟩ = some (.slice A1' n1' c1''))) (by kernel_rfl) (by (try dsimp only); exact ⟨⟨(box4 HB6.out (by with_reducible (repeat (first | exact Ext.rfl_ _ | assumption | refine Ext.drew ?_ | refine Ext.drewN ?_ _ | refine Ext.alloc ?_ _ | refine Ext.trans ?_ (by assumption))))).1, (box4 HB6.out (by with_reducible (repeat (first | exact Ext.rfl_ _ | assumption | refine Ext.drew ?_ | refine Ext.drewN ?_ _ | refine Ext.alloc ?_ _ | refine Ext.trans ?_ (by assumption))))).2.1, (box4 HB6.out (by with_reducible (repeat (first | exact Ext.rfl_ _ | assumption | refine Ext.drew ?_ | refine Ext.drewN ?_ _ | refine Ext.alloc ?_ _ | refine Ext.trans ?_ (by assumption))))).2.2.1, (box4 HB6.out (by with_reducible (repeat (first | exact Ext.rfl_ _ | assumption | refine Ext.drew ?_ | refine Ext.drewN ?_ _ | refine Ext.alloc ?_ _ | refine Ext.trans ?_ (by assumption))))).2.2.2.1⟩, HS.out _ (X6.out.trans (by with_reducible (repeat (first | exact Ext.rfl_ _ | assumption | refine Ext.drew ?_ | refine Ext.drewN ?_ _ | refine Ext.alloc ?_ _ | refine Ext.trans ?_ (by assumption)))))⟩) (fun hHeld => ?_)
            refine wpAnyH_take (i := 0) (oi := ({ dst := some 74, op := Go.Op.move (Go.Operand.tmp 11), type := 31, pos := "law.go:204", after := #[], guard := none } : Go.Oper)) (v := ?v28) rfl (by kernel_rfl) (by kernel_rfl) (by kernel_rfl) (fun _ _ _ h => h) (Or.inl ⟨by rfl, ?hy28⟩) (by assumption) ?rest28
            case hy28 => (intro w hSw; (try dsimp only at hSw); go_simp; (try with_reducible rfl))
            (try simp only [Act.put, List.getElem_toArray, List.getElem_cons_zero, List.getElem_cons_succ, List.setIfInBounds_toArray, List.set_cons_zero, List.set_cons_succ])
            refine wpAnyH_ready (rs := [1]) (by kernel_rfl) (by simp) ?_
            refine AllReadyH.cons (o := ({ dst := some 75, op := Go.Op.call { callee := Go.Callee.value (Go.Operand.func 19), args := #[Go.Operand.tmp 74], argTypes := #[31] }, type := 3, pos := "law.go:204", after := #[{ on := 0, ground := Go.Ground.data }], guard := none } : Go.Oper)) rfl (fun K hK => ?_) AllReadyH.nil
            go_simp
            (first | (go_at_call 19; refine (num_any _ _).mono ?_; rintro e w7 ⟨rfl, rfl⟩) | (go_at_call 23; refine (rsame_self _ _ x1 _ (by have := (HF6.out.rd.ext ((Ext.alloc (Ext.rfl_ _) (.cells #[.slice A6 n6 c6, .int .i64 (rdE (wrE x1)).seq, .int .i64 (rdE (wrE x1)).kind, .slice B6 m6 d6] 25)).trans (by with_reducible (repeat (first | exact Ext.rfl_ _ | assumption | refine Ext.drew ?_ | refine Ext.drewN ?_ _ | refine Ext.alloc ?_ _ | refine Ext.trans ?_ (by assumption)))))); rw [HBE.out.2] at this ⊢; exact this) (HR.out.ext (X6.out.trans (by with_reducible (repeat (first | exact Ext.rfl_ _ | assumption | refine Ext.drew ?_ | refine Ext.drewN ?_ _ | refine Ext.alloc ?_ _ | refine Ext.trans ?_ (by assumption))))))).mono ?_; rintro e w8 ⟨rfl, hw8⟩) | (go_at_call 34; refine (size_any _ x1 _ (HR.out.ext (X6.out.trans (by with_reducible (repeat (first | exact Ext.rfl_ _ | assumption | refine Ext.drew ?_ | refine Ext.drewN ?_ _ | refine Ext.alloc ?_ _ | refine Ext.trans ?_ (by assumption))))))).mono ?_; rintro e w9 ⟨rfl, hw9⟩; rw [← HL5.out]))
            (try (go_wp2_with fail))
            refine hK.out _ _ (by (try dsimp only); exact ⟨⟨(box4 HB6.out (by with_reducible (repeat (first | exact Ext.rfl_ _ | assumption | refine Ext.drew ?_ | refine Ext.drewN ?_ _ | refine Ext.alloc ?_ _ | refine Ext.trans ?_ (by assumption))))).1, (box4 HB6.out (by with_reducible (repeat (first | exact Ext.rfl_ _ | assumption | refine Ext.drew ?_ | refine Ext.drewN ?_ _ | refine Ext.alloc ?_ _ | refine Ext.trans ?_ (by assumption))))).2.1, (box4 HB6.out (by with_reducible (repeat (first | exact Ext.rfl_ _ | assumption | refine Ext.drew ?_ | refine Ext.drewN ?_ _ | refine Ext.alloc ?_ _ | refine Ext.trans ?_ (by assumption))))).2.2.1, (box4 HB6.out (by with_reducible (repeat (first | exact Ext.rfl_ _ | assumption | refine Ext.drew ?_ | refine Ext.drewN ?_ _ | refine Ext.alloc ?_ _ | refine Ext.trans ?_ (by assumption))))).2.2.2.1⟩, HS.out _ (X6.out.trans (by with_reducible (repeat (first | exact Ext.rfl_ _ | assumption | refine Ext.drew ?_ | refine Ext.drewN ?_ _ | refine Ext.alloc ?_ _ | refine Ext.trans ?_ (by assumption)))))⟩) (fun hHeld => ?_)
            clear hK K
            (try simp only [Act.put, List.getElem_toArray, List.getElem_cons_zero, List.getElem_cons_succ, List.setIfInBounds_toArray, List.set_cons_zero, List.set_cons_succ])
            refine wpAnyH_take (i := 2) (oi := ({ dst := some 76, op := Go.Op.binOp Go.BinOp.eql 3 (Go.Operand.tmp 75) (Go.Operand.const (Go.Value.int Go.IntKind.i64 0)) 3, type := 4, pos := "law.go:204", after := #[{ on := 1, ground := Go.Ground.data }], guard := none } : Go.Oper)) (v := ?v29) rfl (by kernel_rfl) (by kernel_rfl) (by kernel_rfl) (fun _ _ _ h => h) (Or.inl ⟨by rfl, ?hy29⟩) (by assumption) ?rest29
            case hy29 => (intro w hSw; (try dsimp only at hSw); go_simp; (try with_reducible rfl))
            (try simp only [Act.put, List.getElem_toArray, List.getElem_cons_zero, List.getElem_cons_succ, List.setIfInBounds_toArray, List.set_cons_zero, List.set_cons_succ])
            refine wpAnyH_take (i := 3) (oi := ({ dst := some 77, op := Go.Op.move (Go.Operand.tmp 76), type := 4, pos := "law.go:204", after := #[{ on := 2, ground := Go.Ground.data }, { on := 1, ground := Go.Ground.chain }], guard := none } : Go.Oper)) (v := ?v30) rfl (by kernel_rfl) (by kernel_rfl) (by kernel_rfl) (fun _ _ _ h => h) (Or.inl ⟨by rfl, ?hy30⟩) (by assumption) ?rest30
            case hy30 => (intro w hSw; (try dsimp only at hSw); go_simp; (try with_reducible rfl))
            (try simp only [Act.put, List.getElem_toArray, List.getElem_cons_zero, List.getElem_cons_succ, List.setIfInBounds_toArray, List.set_cons_zero, List.set_cons_succ])
            refine wpAnyH_take (i := 4) (oi := ({ dst := some 78, op := Go.Op.move (Go.Operand.tmp 13), type := 31, pos := "law.go:204", after := #[{ on := 3, ground := Go.Ground.guard }], guard := some (3, true) } : Go.Oper)) (v := ?v31) rfl (by kernel_rfl) (by kernel_rfl) (by kernel_rfl) (fun _ _ _ h => h) (Or.inl ⟨by rfl, ?hy31⟩) (by assumption) ?rest31
            case hy31 => (intro w hSw; (try dsimp only at hSw); go_simp; (try with_reducible rfl))
            (try simp only [Act.put, List.getElem_toArray, List.getElem_cons_zero, List.getElem_cons_succ, List.setIfInBounds_toArray, List.set_cons_zero, List.set_cons_succ])
            refine wpAnyH_ready (rs := [5]) (by kernel_rfl) (by simp) ?_
            refine AllReadyH.cons (o := ({ dst := some 79, op := Go.Op.call { callee := Go.Callee.value (Go.Operand.func 19), args := #[Go.Operand.tmp 78], argTypes := #[31] }, type := 3, pos := "law.go:204", after := #[{ on := 4, ground := Go.Ground.data }, { on := 3, ground := Go.Ground.chain }, { on := 3, ground := Go.Ground.guard }], guard := some (3, true) } : Go.Oper)) rfl (fun K hK => ?_) AllReadyH.nil
            go_simp
            (first | (go_at_call 19; refine (num_any _ _).mono ?_; rintro e w7 ⟨rfl, rfl⟩) | (go_at_call 23; refine (rsame_self _ _ x1 _ (by have := (HF6.out.rd.ext ((Ext.alloc (Ext.rfl_ _) (.cells #[.slice A6 n6 c6, .int .i64 (rdE (wrE x1)).seq, .int .i64 (rdE (wrE x1)).kind, .slice B6 m6 d6] 25)).trans (by with_reducible (repeat (first | exact Ext.rfl_ _ | assumption | refine Ext.drew ?_ | refine Ext.drewN ?_ _ | refine Ext.alloc ?_ _ | refine Ext.trans ?_ (by assumption)))))); rw [HBE.out.2] at this ⊢; exact this) (HR.out.ext (X6.out.trans (by with_reducible (repeat (first | exact Ext.rfl_ _ | assumption | refine Ext.drew ?_ | refine Ext.drewN ?_ _ | refine Ext.alloc ?_ _ | refine Ext.trans ?_ (by assumption))))))).mono ?_; rintro e w8 ⟨rfl, hw8⟩) | (go_at_call 34; refine (size_any _ x1 _ (HR.out.ext (X6.out.trans (by with_reducible (repeat (first | exact Ext.rfl_ _ | assumption | refine Ext.drew ?_ | refine Ext.drewN ?_ _ | refine Ext.alloc ?_ _ | refine Ext.trans ?_ (by assumption))))))).mono ?_; rintro e w9 ⟨rfl, hw9⟩; rw [← HL5.out]))
            (try (go_wp2_with fail))
            refine hK.out _ _ (by (try dsimp only); exact ⟨⟨(box4 HB6.out (by with_reducible (repeat (first | exact Ext.rfl_ _ | assumption | refine Ext.drew ?_ | refine Ext.drewN ?_ _ | refine Ext.alloc ?_ _ | refine Ext.trans ?_ (by assumption))))).1, (box4 HB6.out (by with_reducible (repeat (first | exact Ext.rfl_ _ | assumption | refine Ext.drew ?_ | refine Ext.drewN ?_ _ | refine Ext.alloc ?_ _ | refine Ext.trans ?_ (by assumption))))).2.1, (box4 HB6.out (by with_reducible (repeat (first | exact Ext.rfl_ _ | assumption | refine Ext.drew ?_ | refine Ext.drewN ?_ _ | refine Ext.alloc ?_ _ | refine Ext.trans ?_ (by assumption))))).2.2.1, (box4 HB6.out (by with_reducible (repeat (first | exact Ext.rfl_ _ | assumption | refine Ext.drew ?_ | refine Ext.drewN ?_ _ | refine Ext.alloc ?_ _ | refine Ext.trans ?_ (by assumption))))).2.2.2.1⟩, HS.out _ (X6.out.trans (by with_reducible (repeat (first | exact Ext.rfl_ _ | assumption | refine Ext.drew ?_ | refine Ext.drewN ?_ _ | refine Ext.alloc ?_ _ | refine Ext.trans ?_ (by assumption)))))⟩) (fun hHeld => ?_)
            clear hK K
            (try simp only [Act.put, List.getElem_toArray, List.getElem_cons_zero, List.getElem_cons_succ, List.setIfInBounds_toArray, List.set_cons_zero, List.set_cons_succ])
            refine wpAnyH_take (i := 6) (oi := ({ dst := some 80, op := Go.Op.binOp Go.BinOp.neq 3 (Go.Operand.tmp 79) (Go.Operand.const (Go.Value.int Go.IntKind.i64 0)) 3, type := 4, pos := "law.go:204", after := #[{ on := 5, ground := Go.Ground.data }, { on := 3, ground := Go.Ground.guard }], guard := some (3, true) } : Go.Oper)) (v := ?v32) rfl (by kernel_rfl) (by kernel_rfl) (by kernel_rfl) (fun _ _ _ h => h) (Or.inl ⟨by rfl, ?hy32⟩) (by assumption) ?rest32
            case hy32 => (intro w hSw; (try dsimp only at hSw); go_simp; (try with_reducible rfl))
            (try simp only [Act.put, List.getElem_toArray, List.getElem_cons_zero, List.getElem_cons_succ, List.setIfInBounds_toArray, List.set_cons_zero, List.set_cons_succ])
            refine wpAnyH_take (i := 7) (oi := ({ dst := some 81, op := Go.Op.move (Go.Operand.tmp 80), type := 4, pos := "law.go:204", after := #[{ on := 6, ground := Go.Ground.data }, { on := 5, ground := Go.Ground.chain }, { on := 3, ground := Go.Ground.guard }], guard := some (3, true) } : Go.Oper)) (v := ?v33) rfl (by kernel_rfl) (by kernel_rfl) (by kernel_rfl) (fun _ _ _ h => h) (Or.inl ⟨by rfl, ?hy33⟩) (by assumption) ?rest33
            case hy33 => (intro w hSw; (try dsimp only at hSw); go_simp; (try with_reducible rfl))
            (try simp only [Act.put, List.getElem_toArray, List.getElem_cons_zero, List.getElem_cons_succ, List.setIfInBounds_toArray, List.set_cons_zero, List.set_cons_succ])
            refine wpAnyH_take (i := 8) (oi := ({ dst := some 82, op := Go.Op.load 25 (Go.Operand.tmp 12), type := 25, pos := "law.go:204", after := #[{ on := 7, ground := Go.Ground.guard }], guard := some (7, false) } : Go.Oper)) (v := ?v34) rfl (by kernel_rfl) (by kernel_rfl) (by kernel_rfl) (fun _ _ _ h => h) (Or.inl ⟨by rfl, ?hy34⟩) (by assumption) ?rest34
            case hy34 => (intro w hSw; (try dsimp only at hSw); go_simp; (try with_reducible rfl))
            (try simp only [Act.put, List.getElem_toArray, List.getElem_cons_zero, List.getElem_cons_succ, List.setIfInBounds_toArray, List.set_cons_zero, List.set_cons_succ])
            refine wpAnyH_take (i := 9) (oi := ({ dst := some 83, op := Go.Op.move (Go.Operand.tmp 0), type := 42, pos := "law.go:204", after := #[{ on := 7, ground := Go.Ground.guard }], guard := some (7, false) } : Go.Oper)) (v := ?v35) rfl (by kernel_rfl) (by kernel_rfl) (by kernel_rfl) (fun _ _ _ h => h) (Or.inl ⟨by rfl, ?hy35⟩) (by assumption) ?rest35
            case hy35 => (intro w hSw; (try dsimp only at hSw); go_simp; (try with_reducible rfl))
            (try simp only [Act.put, List.getElem_toArray, List.getElem_cons_zero, List.getElem_cons_succ, List.setIfInBounds_toArray, List.set_cons_zero, List.set_cons_succ])
            refine wpAnyH_take (i := 10) (oi := ({ dst := some 84, op := Go.Op.move (Go.Operand.tmp 9), type := 3, pos := "law.go:204", after := #[{ on := 7, ground := Go.Ground.guard }], guard := some (7, false) } : Go.Oper)) (v := ?v36) rfl (by kernel_rfl) (by kernel_rfl) (by kernel_rfl) (fun _ _ _ h => h) (Or.inl ⟨by rfl, ?hy36⟩) (by assumption) ?rest36
            case hy36 => (intro w hSw; (try dsimp only at hSw); go_simp; (try with_reducible rfl))
            (try simp only [Act.put, List.getElem_toArray, List.getElem_cons_zero, List.getElem_cons_succ, List.setIfInBounds_toArray, List.set_cons_zero, List.set_cons_succ])
            refine wpAnyH_take (i := 11) (oi := ({ dst := some 85, op := Go.Op.indexAddr 42 (Go.Operand.tmp 83) (Go.Operand.tmp 84), type := 0, pos := "law.go:204", after := #[{ on := 9, ground := Go.Ground.data }, { on := 10, ground := Go.Ground.data }, { on := 7, ground := Go.Ground.guard }], guard := some (7, false) } : Go.Oper)) (v := ?v37) rfl (by kernel_rfl) (by kernel_rfl) (by kernel_rfl) (fun _ _ _ h => h) (Or.inl ⟨by rfl, ?hy37⟩) (by assumption) ?rest37
            case hy37 => (intro w hSw; (try dsimp only at hSw); go_simp; (try with_reducible rfl))
            (try simp only [Act.put, List.getElem_toArray, List.getElem_cons_zero, List.getElem_cons_succ, List.setIfInBounds_toArray, List.set_cons_zero, List.set_cons_succ])
            refine wpAnyH_take (i := 12) (oi := ({ dst := some 86, op := Go.Op.load 25 (Go.Operand.tmp 85), type := 25, pos := "law.go:204", after := #[{ on := 11, ground := Go.Ground.data }, { on := 7, ground := Go.Ground.guard }], guard := some (7, false) } : Go.Oper)) (v := ?v38) rfl (by kernel_rfl) (by kernel_rfl) (by kernel_rfl) (fun _ _ _ h => h) (Or.inl ⟨by rfl, ?hy38⟩) (by assumption) ?rest38
            case hy38 => (intro w hSw; (try dsimp only at hSw); go_simp; (try with_reducible rfl))
            (try simp only [Act.put, List.getElem_toArray, List.getElem_cons_zero, List.getElem_cons_succ, List.setIfInBounds_toArray, List.set_cons_zero, List.set_cons_succ])
            refine wpAnyH_ready (rs := [13]) (by kernel_rfl) (by simp) ?_
            refine AllReadyH.cons (o := ({ dst := some 87, op := Go.Op.call { callee := Go.Callee.value (Go.Operand.func 23), args := #[Go.Operand.tmp 82, Go.Operand.tmp 86], argTypes := #[25, 25] }, type := 4, pos := "law.go:204", after := #[{ on := 8, ground := Go.Ground.data }, { on := 12, ground := Go.Ground.data }, { on := 7, ground := Go.Ground.chain }, { on := 7, ground := Go.Ground.guard }], guard := some (7, false) } : Go.Oper)) rfl (fun K hK => ?_) AllReadyH.nil
            go_simp
            (first | (go_at_call 19; refine (num_any _ _).mono ?_; rintro e w7 ⟨rfl, rfl⟩) | (go_at_call 23; refine (rsame_self _ _ x1 _ (by have := (HF6.out.rd.ext ((Ext.alloc (Ext.rfl_ _) (.cells #[.slice A6 n6 c6, .int .i64 (rdE (wrE x1)).seq, .int .i64 (rdE (wrE x1)).kind, .slice B6 m6 d6] 25)).trans (by with_reducible (repeat (first | exact Ext.rfl_ _ | assumption | refine Ext.drew ?_ | refine Ext.drewN ?_ _ | refine Ext.alloc ?_ _ | refine Ext.trans ?_ (by assumption)))))); rw [HBE.out.2] at this ⊢; exact this) (HR.out.ext (X6.out.trans (by with_reducible (repeat (first | exact Ext.rfl_ _ | assumption | refine Ext.drew ?_ | refine Ext.drewN ?_ _ | refine Ext.alloc ?_ _ | refine Ext.trans ?_ (by assumption))))))).mono ?_; rintro e w8 ⟨rfl, hw8⟩) | (go_at_call 34; refine (size_any _ x1 _ (HR.out.ext (X6.out.trans (by with_reducible (repeat (first | exact Ext.rfl_ _ | assumption | refine Ext.drew ?_ | refine Ext.drewN ?_ _ | refine Ext.alloc ?_ _ | refine Ext.trans ?_ (by assumption))))))).mono ?_; rintro e w9 ⟨rfl, hw9⟩; rw [← HL5.out]))
            (try (go_wp2_with fail))
            refine hK.out _ _ (by (try dsimp only); exact ⟨⟨(box4 HB6.out (by with_reducible (repeat (first | exact Ext.rfl_ _ | assumption | refine Ext.drew ?_ | refine Ext.drewN ?_ _ | refine Ext.alloc ?_ _ | refine Ext.trans ?_ (by assumption))))).1, (box4 HB6.out (by with_reducible (repeat (first | exact Ext.rfl_ _ | assumption | refine Ext.drew ?_ | refine Ext.drewN ?_ _ | refine Ext.alloc ?_ _ | refine Ext.trans ?_ (by assumption))))).2.1, (box4 HB6.out (by with_reducible (repeat (first | exact Ext.rfl_ _ | assumption | refine Ext.drew ?_ | refine Ext.drewN ?_ _ | refine Ext.alloc ?_ _ | refine Ext.trans ?_ (by assumption))))).2.2.1, (box4 HB6.out (by with_reducible (repeat (first | exact Ext.rfl_ _ | assumption | refine Ext.drew ?_ | refine Ext.drewN ?_ _ | refine Ext.alloc ?_ _ | refine Ext.trans ?_ (by assumption))))).2.2.2.1⟩, HS.out _ (X6.out.trans (by with_reducible (repeat (first | exact Ext.rfl_ _ | assumption | refine Ext.drew ?_ | refine Ext.drewN ?_ _ | refine Ext.alloc ?_ _ | refine Ext.trans ?_ (by assumption)))))⟩) (fun hHeld => ?_)
            clear hK K
            (try simp only [Act.put, List.getElem_toArray, List.getElem_cons_zero, List.getElem_cons_succ, List.setIfInBounds_toArray, List.set_cons_zero, List.set_cons_succ])
            refine wpAnyH_take (i := 14) (oi := ({ dst := some 88, op := Go.Op.unOp Go.UnOp.not 4 (Go.Operand.tmp 87), type := 4, pos := "law.go:204", after := #[{ on := 13, ground := Go.Ground.data }, { on := 7, ground := Go.Ground.guard }], guard := some (7, false) } : Go.Oper)) (v := ?v39) rfl (by kernel_rfl) (by kernel_rfl) (by kernel_rfl) (fun _ _ _ h => h) (Or.inl ⟨by rfl, ?hy39⟩) (by assumption) ?rest39
            case hy39 => (intro w hSw; (try dsimp only at hSw); go_simp; (try with_reducible rfl))
            (try simp only [Act.put, List.getElem_toArray, List.getElem_cons_zero, List.getElem_cons_succ, List.setIfInBounds_toArray, List.set_cons_zero, List.set_cons_succ])
            refine wpAnyH_take (i := 15) (oi := ({ dst := some 89, op := Go.Op.pick (Go.Operand.tmp 81) (Go.Operand.const (Go.Value.bool true)) (Go.Operand.tmp 88), type := 4, pos := "law.go:204", after := #[{ on := 7, ground := Go.Ground.data }, { on := 14, ground := Go.Ground.data }, { on := 3, ground := Go.Ground.guard }], guard := some (3, true) } : Go.Oper)) (v := ?v40) rfl (by kernel_rfl) (by kernel_rfl) (by kernel_rfl) (fun _ _ _ h => h) (Or.inl ⟨by rfl, ?hy40⟩) (by assumption) ?rest40
            case hy40 => (intro w hSw; (try dsimp only at hSw); go_simp; (try with_reducible rfl))
            (try simp only [Act.put, List.getElem_toArray, List.getElem_cons_zero, List.getElem_cons_succ, List.setIfInBounds_toArray, List.set_cons_zero, List.set_cons_succ])
            refine wpAnyH_take (i := 16) (oi := ({ dst := some 90, op := Go.Op.move (Go.Operand.tmp 89), type := 4, pos := "law.go:204", after := #[{ on := 15, ground := Go.Ground.data }, { on := 13, ground := Go.Ground.chain }, { on := 3, ground := Go.Ground.guard }], guard := some (3, true) } : Go.Oper)) (v := ?v41) rfl (by kernel_rfl) (by kernel_rfl) (by kernel_rfl) (fun _ _ _ h => h) (Or.inl ⟨by rfl, ?hy41⟩) (by assumption) ?rest41
            case hy41 => (intro w hSw; (try dsimp only at hSw); go_simp; (try with_reducible rfl))
            (try simp only [Act.put, List.getElem_toArray, List.getElem_cons_zero, List.getElem_cons_succ, List.setIfInBounds_toArray, List.set_cons_zero, List.set_cons_succ])
            refine wpAnyH_take (i := 17) (oi := ({ dst := some 91, op := Go.Op.move (Go.Operand.tmp 0), type := 42, pos := "law.go:204", after := #[{ on := 16, ground := Go.Ground.guard }], guard := some (16, false) } : Go.Oper)) (v := ?v42) rfl (by kernel_rfl) (by kernel_rfl) (by kernel_rfl) (fun _ _ _ h => h) (Or.inl ⟨by rfl, ?hy42⟩) (by assumption) ?rest42
            case hy42 => (intro w hSw; (try dsimp only at hSw); go_simp; (try with_reducible rfl))
            (try simp only [Act.put, List.getElem_toArray, List.getElem_cons_zero, List.getElem_cons_succ, List.setIfInBounds_toArray, List.set_cons_zero, List.set_cons_succ])
            refine wpAnyH_take (i := 18) (oi := ({ dst := some 92, op := Go.Op.move (Go.Operand.tmp 9), type := 3, pos := "law.go:204", after := #[{ on := 16, ground := Go.Ground.guard }], guard := some (16, false) } : Go.Oper)) (v := ?v43) rfl (by kernel_rfl) (by kernel_rfl) (by kernel_rfl) (fun _ _ _ h => h) (Or.inl ⟨by rfl, ?hy43⟩) (by assumption) ?rest43
            case hy43 => (intro w hSw; (try dsimp only at hSw); go_simp; (try with_reducible rfl))
            (try simp only [Act.put, List.getElem_toArray, List.getElem_cons_zero, List.getElem_cons_succ, List.setIfInBounds_toArray, List.set_cons_zero, List.set_cons_succ])
            refine wpAnyH_take (i := 19) (oi := ({ dst := some 93, op := Go.Op.indexAddr 42 (Go.Operand.tmp 91) (Go.Operand.tmp 92), type := 0, pos := "law.go:204", after := #[{ on := 17, ground := Go.Ground.data }, { on := 18, ground := Go.Ground.data }, { on := 16, ground := Go.Ground.guard }], guard := some (16, false) } : Go.Oper)) (v := ?v44) rfl (by kernel_rfl) (by kernel_rfl) (by kernel_rfl) (fun _ _ _ h => h) (Or.inl ⟨by rfl, ?hy44⟩) (by assumption) ?rest44
            case hy44 => (intro w hSw; (try dsimp only at hSw); go_simp; (try with_reducible rfl))
            (try simp only [Act.put, List.getElem_toArray, List.getElem_cons_zero, List.getElem_cons_succ, List.setIfInBounds_toArray, List.set_cons_zero, List.set_cons_succ])
            refine wpAnyH_take (i := 20) (oi := ({ dst := some 94, op := Go.Op.load 25 (Go.Operand.tmp 93), type := 25, pos := "law.go:204", after := #[{ on := 19, ground := Go.Ground.data }, { on := 16, ground := Go.Ground.guard }], guard := some (16, false) } : Go.Oper)) (v := ?v45) rfl (by kernel_rfl) (by kernel_rfl) (by kernel_rfl) (fun _ _ _ h => h) (Or.inl ⟨by rfl, ?hy45⟩) (by assumption) ?rest45
            case hy45 => (intro w hSw; (try dsimp only at hSw); go_simp; (try with_reducible rfl))
            (try simp only [Act.put, List.getElem_toArray, List.getElem_cons_zero, List.getElem_cons_succ, List.setIfInBounds_toArray, List.set_cons_zero, List.set_cons_succ])
            refine wpAnyH_take (i := 22) (oi := ({ dst := some 96, op := Go.Op.move (Go.Operand.tmp 10), type := 22, pos := "law.go:204", after := #[{ on := 16, ground := Go.Ground.guard }], guard := some (16, false) } : Go.Oper)) (v := ?v46) rfl (by kernel_rfl) (by kernel_rfl) (by kernel_rfl) (fun _ _ _ h => h) (Or.inl ⟨by rfl, ?hy46⟩) (by assumption) ?rest46
            case hy46 => (intro w hSw; (try dsimp only at hSw); go_simp; (try with_reducible rfl))
            (try simp only [Act.put, List.getElem_toArray, List.getElem_cons_zero, List.getElem_cons_succ, List.setIfInBounds_toArray, List.set_cons_zero, List.set_cons_succ])
            refine wpAnyH_take (i := 23) (oi := ({ dst := some 97, op := Go.Op.call { callee := Go.Callee.builtin Go.Builtin.len, args := #[Go.Operand.tmp 96], argTypes := #[22] }, type := 3, pos := "law.go:204", after := #[{ on := 22, ground := Go.Ground.data }, { on := 16, ground := Go.Ground.guard }], guard := some (16, false) } : Go.Oper)) (v := ?v47) rfl (by kernel_rfl) (by kernel_rfl) (by kernel_rfl) (fun _ _ _ h => h) (Or.inl ⟨by rfl, ?hy47⟩) (by assumption) ?rest47
            case hy47 => (intro w hSw; (try dsimp only at hSw); go_simp; (try with_reducible rfl))
            (try simp only [Act.put, List.getElem_toArray, List.getElem_cons_zero, List.getElem_cons_succ, List.setIfInBounds_toArray, List.set_cons_zero, List.set_cons_succ])
            refine wpAnyH_ready (rs := [21]) (by kernel_rfl) (by simp) ?_
            refine AllReadyH.cons (o := ({ dst := some 95, op := Go.Op.call { callee := Go.Callee.value (Go.Operand.func 34), args := #[Go.Operand.tmp 94], argTypes := #[25] }, type := 3, pos := "law.go:204", after := #[{ on := 20, ground := Go.Ground.data }, { on := 16, ground := Go.Ground.chain }, { on := 16, ground := Go.Ground.guard }], guard := some (16, false) } : Go.Oper)) rfl (fun K hK => ?_) AllReadyH.nil
            go_simp
            (first | (go_at_call 19; refine (num_any _ _).mono ?_; rintro e w7 ⟨rfl, rfl⟩) | (go_at_call 23; refine (rsame_self _ _ x1 _ (by have := (HF6.out.rd.ext ((Ext.alloc (Ext.rfl_ _) (.cells #[.slice A6 n6 c6, .int .i64 (rdE (wrE x1)).seq, .int .i64 (rdE (wrE x1)).kind, .slice B6 m6 d6] 25)).trans (by with_reducible (repeat (first | exact Ext.rfl_ _ | assumption | refine Ext.drew ?_ | refine Ext.drewN ?_ _ | refine Ext.alloc ?_ _ | refine Ext.trans ?_ (by assumption)))))); rw [HBE.out.2] at this ⊢; exact this) (HR.out.ext (X6.out.trans (by with_reducible (repeat (first | exact Ext.rfl_ _ | assumption | refine Ext.drew ?_ | refine Ext.drewN ?_ _ | refine Ext.alloc ?_ _ | refine Ext.trans ?_ (by assumption))))))).mono ?_; rintro e w8 ⟨rfl, hw8⟩) | (go_at_call 34; refine (size_any _ x1 _ (HR.out.ext (X6.out.trans (by with_reducible (repeat (first | exact Ext.rfl_ _ | assumption | refine Ext.drew ?_ | refine Ext.drewN ?_ _ | refine Ext.alloc ?_ _ | refine Ext.trans ?_ (by assumption))))))).mono ?_; rintro e w9 ⟨rfl, hw9⟩; rw [← HL5.out]))
            (try (go_wp2_with fail))
            refine hK.out _ _ (by (try dsimp only); exact ⟨⟨(box4 HB6.out (by with_reducible (repeat (first | exact Ext.rfl_ _ | assumption | refine Ext.drew ?_ | refine Ext.drewN ?_ _ | refine Ext.alloc ?_ _ | refine Ext.trans ?_ (by assumption))))).1, (box4 HB6.out (by with_reducible (repeat (first | exact Ext.rfl_ _ | assumption | refine Ext.drew ?_ | refine Ext.drewN ?_ _ | refine Ext.alloc ?_ _ | refine Ext.trans ?_ (by assumption))))).2.1, (box4 HB6.out (by with_reducible (repeat (first | exact Ext.rfl_ _ | assumption | refine Ext.drew ?_ | refine Ext.drewN ?_ _ | refine Ext.alloc ?_ _ | refine Ext.trans ?_ (by assumption))))).2.2.1, (box4 HB6.out (by with_reducible (repeat (first | exact Ext.rfl_ _ | assumption | refine Ext.drew ?_ | refine Ext.drewN ?_ _ | refine Ext.alloc ?_ _ | refine Ext.trans ?_ (by assumption))))).2.2.2.1⟩, HS.out _ (X6.out.trans (by with_reducible (repeat (first | exact Ext.rfl_ _ | assumption | refine Ext.drew ?_ | refine Ext.drewN ?_ _ | refine Ext.alloc ?_ _ | refine Ext.trans ?_ (by assumption)))))⟩) (fun hHeld => ?_)
            clear hK K
            (try simp only [Act.put, List.getElem_toArray, List.getElem_cons_zero, List.getElem_cons_succ, List.setIfInBounds_toArray, List.set_cons_zero, List.set_cons_succ])
            refine wpAnyH_take (i := 24) (oi := ({ dst := some 98, op := Go.Op.binOp Go.BinOp.neq 3 (Go.Operand.tmp 95) (Go.Operand.tmp 97) 3, type := 4, pos := "law.go:204", after := #[{ on := 21, ground := Go.Ground.data }, { on := 23, ground := Go.Ground.data }, { on := 16, ground := Go.Ground.guard }], guard := some (16, false) } : Go.Oper)) (v := ?v48) rfl (by kernel_rfl) (by kernel_rfl) (by kernel_rfl) (fun _ _ _ h => h) (Or.inl ⟨by rfl, ?hy48⟩) (by assumption) ?rest48
            case hy48 => (intro w hSw; (try dsimp only at hSw); go_simp; (try with_reducible rfl))
            (try simp only [Act.put, List.getElem_toArray, List.getElem_cons_zero, List.getElem_cons_succ, List.setIfInBounds_toArray, List.set_cons_zero, List.set_cons_succ])
            refine wpAnyH_take (i := 25) (oi := ({ dst := some 99, op := Go.Op.pick (Go.Operand.tmp 90) (Go.Operand.const (Go.Value.bool true)) (Go.Operand.tmp 98), type := 4, pos := "law.go:204", after := #[{ on := 16, ground := Go.Ground.data }, { on := 24, ground := Go.Ground.data }, { on := 3, ground := Go.Ground.guard }], guard := some (3, true) } : Go.Oper)) (v := ?v49) rfl (by kernel_rfl) (by kernel_rfl) (by kernel_rfl) (fun _ _ _ h => h) (Or.inl ⟨by rfl, ?hy49⟩) (by assumption) ?rest49
            case hy49 => (intro w hSw; (try dsimp only at hSw); go_simp; (try with_reducible rfl))
            (try simp only [Act.put, List.getElem_toArray, List.getElem_cons_zero, List.getElem_cons_succ, List.setIfInBounds_toArray, List.set_cons_zero, List.set_cons_succ])
            refine wpAnyH_take (i := 26) (oi := ({ dst := some 100, op := Go.Op.pick (Go.Operand.tmp 77) (Go.Operand.tmp 99) (Go.Operand.const (Go.Value.bool false)), type := 4, pos := "law.go:204", after := #[{ on := 3, ground := Go.Ground.data }, { on := 25, ground := Go.Ground.data }], guard := none } : Go.Oper)) (v := ?v50) rfl (by kernel_rfl) (by kernel_rfl) (by kernel_rfl) (fun _ _ _ h => h) (Or.inl ⟨by rfl, ?hy50⟩) (by assumption) ?rest50
            case hy50 => (intro w hSw; (try dsimp only at hSw); go_simp; (try with_reducible rfl))
            (try simp only [Act.put, List.getElem_toArray, List.getElem_cons_zero, List.getElem_cons_succ, List.setIfInBounds_toArray, List.set_cons_zero, List.set_cons_succ])
            refine wpAnyH_done (by kernel_rfl) ?_ _
            all_goals
              go_wp2
              go_roundw
              case rel => exact ⟨k + 1, by go_num, by omega, by omega, Lib.hid (X6.out.trans (by with_reducible (repeat (first | exact Ext.rfl_ _ | assumption | refine Ext.drew ?_ | refine Ext.drewN ?_ _ | refine Ext.alloc ?_ _ | refine Ext.trans ?_ (by assumption)))))⟩
              case measure => simp [intOf]; omega
          · go_wp2_with fail
            refine wp_region_held_drew (S := (fun _ => True)) (by kernel_rfl) (by (try dsimp only); (try exact trivial)) (fun hHeld => ?_)
            refine wpAnyH_take (i := 0) (oi := ({ dst := some 74, op := Go.Op.move (Go.Operand.tmp 11), type := 31, pos := "law.go:204", after := #[], guard := none } : Go.Oper)) (v := ?v51) rfl (by kernel_rfl) (by kernel_rfl) (by kernel_rfl) (fun _ _ _ h => h) (Or.inl ⟨by rfl, ?hy51⟩) (by assumption) ?rest51
            case hy51 => (intro w hSw; (try dsimp only at hSw); go_simp; (try with_reducible rfl))
            (try simp only [Act.put, List.getElem_toArray, List.getElem_cons_zero, List.getElem_cons_succ, List.setIfInBounds_toArray, List.set_cons_zero, List.set_cons_succ])
            refine wpAnyH_ready (rs := [1]) (by kernel_rfl) (by simp) ?_
            refine AllReadyH.cons (o := ({ dst := some 75, op := Go.Op.call { callee := Go.Callee.value (Go.Operand.func 19), args := #[Go.Operand.tmp 74], argTypes := #[31] }, type := 3, pos := "law.go:204", after := #[{ on := 0, ground := Go.Ground.data }], guard := none } : Go.Oper)) rfl (fun K hK => ?_) AllReadyH.nil
            go_simp
            (go_at_call 19; refine (num_any _ _).mono ?_; rintro e w7 ⟨rfl, rfl⟩)
            (try (go_wp2_with fail))
            refine hK.out _ _ (by (try dsimp only); (try exact trivial)) (fun hHeld => ?_)
            clear hK K
            (try simp only [Act.put, List.getElem_toArray, List.getElem_cons_zero, List.getElem_cons_succ, List.setIfInBounds_toArray, List.set_cons_zero, List.set_cons_succ])
            refine wpAnyH_take (i := 2) (oi := ({ dst := some 76, op := Go.Op.binOp Go.BinOp.eql 3 (Go.Operand.tmp 75) (Go.Operand.const (Go.Value.int Go.IntKind.i64 0)) 3, type := 4, pos := "law.go:204", after := #[{ on := 1, ground := Go.Ground.data }], guard := none } : Go.Oper)) (v := ?v52) rfl (by kernel_rfl) (by kernel_rfl) (by kernel_rfl) (fun _ _ _ h => h) (Or.inl ⟨by rfl, ?hy52⟩) (by assumption) ?rest52
            case hy52 => (intro w hSw; (try dsimp only at hSw); go_simp; (try with_reducible rfl))
            (try simp only [Act.put, List.getElem_toArray, List.getElem_cons_zero, List.getElem_cons_succ, List.setIfInBounds_toArray, List.set_cons_zero, List.set_cons_succ])
            refine wpAnyH_take (i := 3) (oi := ({ dst := some 77, op := Go.Op.move (Go.Operand.tmp 76), type := 4, pos := "law.go:204", after := #[{ on := 2, ground := Go.Ground.data }, { on := 1, ground := Go.Ground.chain }], guard := none } : Go.Oper)) (v := ?v53) rfl (by kernel_rfl) (by kernel_rfl) (by kernel_rfl) (fun _ _ _ h => h) (Or.inl ⟨by rfl, ?hy53⟩) (by assumption) ?rest53
            case hy53 => (intro w hSw; (try dsimp only at hSw); go_simp; (try with_reducible rfl))
            (try simp only [Act.put, List.getElem_toArray, List.getElem_cons_zero, List.getElem_cons_succ, List.setIfInBounds_toArray, List.set_cons_zero, List.set_cons_succ])
            refine wpAnyH_take (i := 4) (oi := ({ dst := some 78, op := Go.Op.move (Go.Operand.tmp 13), type := 31, pos := "law.go:204", after := #[{ on := 3, ground := Go.Ground.guard }], guard := some (3, true) } : Go.Oper)) (v := undef) rfl (by kernel_rfl) (by kernel_rfl) (by kernel_rfl) (fun _ _ _ h => h) (Or.inr ⟨by rfl, rfl⟩) (by assumption) ?_
            (try simp only [Act.put, List.getElem_toArray, List.getElem_cons_zero, List.getElem_cons_succ, List.setIfInBounds_toArray, List.set_cons_zero, List.set_cons_succ])
            refine wpAnyH_take (i := 5) (oi := ({ dst := some 79, op := Go.Op.call { callee := Go.Callee.value (Go.Operand.func 19), args := #[Go.Operand.tmp 78], argTypes := #[31] }, type := 3, pos := "law.go:204", after := #[{ on := 4, ground := Go.Ground.data }, { on := 3, ground := Go.Ground.chain }, { on := 3, ground := Go.Ground.guard }], guard := some (3, true) } : Go.Oper)) (v := undef) rfl (by kernel_rfl) (by kernel_rfl) (by kernel_rfl) (fun _ _ _ h => h) (Or.inr ⟨by rfl, rfl⟩) (by assumption) ?_
            (try simp only [Act.put, List.getElem_toArray, List.getElem_cons_zero, List.getElem_cons_succ, List.setIfInBounds_toArray, List.set_cons_zero, List.set_cons_succ])
            refine wpAnyH_take (i := 6) (oi := ({ dst := some 80, op := Go.Op.binOp Go.BinOp.neq 3 (Go.Operand.tmp 79) (Go.Operand.const (Go.Value.int Go.IntKind.i64 0)) 3, type := 4, pos := "law.go:204", after := #[{ on := 5, ground := Go.Ground.data }, { on := 3, ground := Go.Ground.guard }], guard := some (3, true) } : Go.Oper)) (v := undef) rfl (by kernel_rfl) (by kernel_rfl) (by kernel_rfl) (fun _ _ _ h => h) (Or.inr ⟨by rfl, rfl⟩) (by assumption) ?_
            (try simp only [Act.put, List.getElem_toArray, List.getElem_cons_zero, List.getElem_cons_succ, List.setIfInBounds_toArray, List.set_cons_zero, List.set_cons_succ])
            refine wpAnyH_take (i := 7) (oi := ({ dst := some 81, op := Go.Op.move (Go.Operand.tmp 80), type := 4, pos := "law.go:204", after := #[{ on := 6, ground := Go.Ground.data }, { on := 5, ground := Go.Ground.chain }, { on := 3, ground := Go.Ground.guard }], guard := some (3, true) } : Go.Oper)) (v := undef) rfl (by kernel_rfl) (by kernel_rfl) (by kernel_rfl) (fun _ _ _ h => h) (Or.inr ⟨by rfl, rfl⟩) (by assumption) ?_
            (try simp only [Act.put, List.getElem_toArray, List.getElem_cons_zero, List.getElem_cons_succ, List.setIfInBounds_toArray, List.set_cons_zero, List.set_cons_succ])
            refine wpAnyH_take (i := 8) (oi := ({ dst := some 82, op := Go.Op.load 25 (Go.Operand.tmp 12), type := 25, pos := "law.go:204", after := #[{ on := 7, ground := Go.Ground.guard }], guard := some (7, false) } : Go.Oper)) (v := undef) rfl (by kernel_rfl) (by kernel_rfl) (by kernel_rfl) (fun _ _ _ h => h) (Or.inr ⟨by rfl, rfl⟩) (by assumption) ?_
            (try simp only [Act.put, List.getElem_toArray, List.getElem_cons_zero, List.getElem_cons_succ, List.setIfInBounds_toArray, List.set_cons_zero, List.set_cons_succ])
            refine wpAnyH_take (i := 9) (oi := ({ dst := some 83, op := Go.Op.move (Go.Operand.tmp 0), type := 42, pos := "law.go:204", after := #[{ on := 7, ground := Go.Ground.guard }], guard := some (7, false) } : Go.Oper)) (v := undef) rfl (by kernel_rfl) (by kernel_rfl) (by kernel_rfl) (fun _ _ _ h => h) (Or.inr ⟨by rfl, rfl⟩) (by assumption) ?_
            (try simp only [Act.put, List.getElem_toArray, List.getElem_cons_zero, List.getElem_cons_succ, List.setIfInBounds_toArray, List.set_cons_zero, List.set_cons_succ])
            refine wpAnyH_take (i := 10) (oi := ({ dst := some 84, op := Go.Op.move (Go.Operand.tmp 9), type := 3, pos := "law.go:204", after := #[{ on := 7, ground := Go.Ground.guard }], guard := some (7, false) } : Go.Oper)) (v := undef) rfl (by kernel_rfl) (by kernel_rfl) (by kernel_rfl) (fun _ _ _ h => h) (Or.inr ⟨by rfl, rfl⟩) (by assumption) ?_
            (try simp only [Act.put, List.getElem_toArray, List.getElem_cons_zero, List.getElem_cons_succ, List.setIfInBounds_toArray, List.set_cons_zero, List.set_cons_succ])
            refine wpAnyH_take (i := 11) (oi := ({ dst := some 85, op := Go.Op.indexAddr 42 (Go.Operand.tmp 83) (Go.Operand.tmp 84), type := 0, pos := "law.go:204", after := #[{ on := 9, ground := Go.Ground.data }, { on := 10, ground := Go.Ground.data }, { on := 7, ground := Go.Ground.guard }], guard := some (7, false) } : Go.Oper)) (v := undef) rfl (by kernel_rfl) (by kernel_rfl) (by kernel_rfl) (fun _ _ _ h => h) (Or.inr ⟨by rfl, rfl⟩) (by assumption) ?_
            (try simp only [Act.put, List.getElem_toArray, List.getElem_cons_zero, List.getElem_cons_succ, List.setIfInBounds_toArray, List.set_cons_zero, List.set_cons_succ])
            refine wpAnyH_take (i := 12) (oi := ({ dst := some 86, op := Go.Op.load 25 (Go.Operand.tmp 85), type := 25, pos := "law.go:204", after := #[{ on := 11, ground := Go.Ground.data }, { on := 7, ground := Go.Ground.guard }], guard := some (7, false) } : Go.Oper)) (v := undef) rfl (by kernel_rfl) (by kernel_rfl) (by kernel_rfl) (fun _ _ _ h => h) (Or.inr ⟨by rfl, rfl⟩) (by assumption) ?_
            (try simp only [Act.put, List.getElem_toArray, List.getElem_cons_zero, List.getElem_cons_succ, List.setIfInBounds_toArray, List.set_cons_zero, List.set_cons_succ])
            refine wpAnyH_take (i := 13) (oi := ({ dst := some 87, op := Go.Op.call { callee := Go.Callee.value (Go.Operand.func 23), args := #[Go.Operand.tmp 82, Go.Operand.tmp 86], argTypes := #[25, 25] }, type := 4, pos := "law.go:204", after := #[{ on := 8, ground := Go.Ground.data }, { on := 12, ground := Go.Ground.data }, { on := 7, ground := Go.Ground.chain }, { on := 7, ground := Go.Ground.guard }], guard := some (7, false) } : Go.Oper)) (v := undef) rfl (by kernel_rfl) (by kernel_rfl) (by kernel_rfl) (fun _ _ _ h => h) (Or.inr ⟨by rfl, rfl⟩) (by assumption) ?_
            (try simp only [Act.put, List.getElem_toArray, List.getElem_cons_zero, List.getElem_cons_succ, List.setIfInBounds_toArray, List.set_cons_zero, List.set_cons_succ])
            refine wpAnyH_take (i := 14) (oi := ({ dst := some 88, op := Go.Op.unOp Go.UnOp.not 4 (Go.Operand.tmp 87), type := 4, pos := "law.go:204", after := #[{ on := 13, ground := Go.Ground.data }, { on := 7, ground := Go.Ground.guard }], guard := some (7, false) } : Go.Oper)) (v := undef) rfl (by kernel_rfl) (by kernel_rfl) (by kernel_rfl) (fun _ _ _ h => h) (Or.inr ⟨by rfl, rfl⟩) (by assumption) ?_
            (try simp only [Act.put, List.getElem_toArray, List.getElem_cons_zero, List.getElem_cons_succ, List.setIfInBounds_toArray, List.set_cons_zero, List.set_cons_succ])
            refine wpAnyH_take (i := 15) (oi := ({ dst := some 89, op := Go.Op.pick (Go.Operand.tmp 81) (Go.Operand.const (Go.Value.bool true)) (Go.Operand.tmp 88), type := 4, pos := "law.go:204", after := #[{ on := 7, ground := Go.Ground.data }, { on := 14, ground := Go.Ground.data }, { on := 3, ground := Go.Ground.guard }], guard := some (3, true) } : Go.Oper)) (v := undef) rfl (by kernel_rfl) (by kernel_rfl) (by kernel_rfl) (fun _ _ _ h => h) (Or.inr ⟨by rfl, rfl⟩) (by assumption) ?_
            (try simp only [Act.put, List.getElem_toArray, List.getElem_cons_zero, List.getElem_cons_succ, List.setIfInBounds_toArray, List.set_cons_zero, List.set_cons_succ])
            refine wpAnyH_take (i := 16) (oi := ({ dst := some 90, op := Go.Op.move (Go.Operand.tmp 89), type := 4, pos := "law.go:204", after := #[{ on := 15, ground := Go.Ground.data }, { on := 13, ground := Go.Ground.chain }, { on := 3, ground := Go.Ground.guard }], guard := some (3, true) } : Go.Oper)) (v := undef) rfl (by kernel_rfl) (by kernel_rfl) (by kernel_rfl) (fun _ _ _ h => h) (Or.inr ⟨by rfl, rfl⟩) (by assumption) ?_
            (try simp only [Act.put, List.getElem_toArray, List.getElem_cons_zero, List.getElem_cons_succ, List.setIfInBounds_toArray, List.set_cons_zero, List.set_cons_succ])
            refine wpAnyH_take (i := 17) (oi := ({ dst := some 91, op := Go.Op.move (Go.Operand.tmp 0), type := 42, pos := "law.go:204", after := #[{ on := 16, ground := Go.Ground.guard }], guard := some (16, false) } : Go.Oper)) (v := undef) rfl (by kernel_rfl) (by kernel_rfl) (by kernel_rfl) (fun _ _ _ h => h) (Or.inr ⟨by rfl, rfl⟩) (by assumption) ?_
            (try simp only [Act.put, List.getElem_toArray, List.getElem_cons_zero, List.getElem_cons_succ, List.setIfInBounds_toArray, List.set_cons_zero, List.set_cons_succ])
            refine wpAnyH_take (i := 18) (oi := ({ dst := some 92, op := Go.Op.move (Go.Operand.tmp 9), type := 3, pos := "law.go:204", after := #[{ on := 16, ground := Go.Ground.guard }], guard := some (16, false) } : Go.Oper)) (v := undef) rfl (by kernel_rfl) (by kernel_rfl) (by kernel_rfl) (fun _ _ _ h => h) (Or.inr ⟨by rfl, rfl⟩) (by assumption) ?_
            (try simp only [Act.put, List.getElem_toArray, List.getElem_cons_zero, List.getElem_cons_succ, List.setIfInBounds_toArray, List.set_cons_zero, List.set_cons_succ])
            refine wpAnyH_take (i := 19) (oi := ({ dst := some 93, op := Go.Op.indexAddr 42 (Go.Operand.tmp 91) (Go.Operand.tmp 92), type := 0, pos := "law.go:204", after := #[{ on := 17, ground := Go.Ground.data }, { on := 18, ground := Go.Ground.data }, { on := 16, ground := Go.Ground.guard }], guard := some (16, false) } : Go.Oper)) (v := undef) rfl (by kernel_rfl) (by kernel_rfl) (by kernel_rfl) (fun _ _ _ h => h) (Or.inr ⟨by rfl, rfl⟩) (by assumption) ?_
            (try simp only [Act.put, List.getElem_toArray, List.getElem_cons_zero, List.getElem_cons_succ, List.setIfInBounds_toArray, List.set_cons_zero, List.set_cons_succ])
            refine wpAnyH_take (i := 20) (oi := ({ dst := some 94, op := Go.Op.load 25 (Go.Operand.tmp 93), type := 25, pos := "law.go:204", after := #[{ on := 19, ground := Go.Ground.data }, { on := 16, ground := Go.Ground.guard }], guard := some (16, false) } : Go.Oper)) (v := undef) rfl (by kernel_rfl) (by kernel_rfl) (by kernel_rfl) (fun _ _ _ h => h) (Or.inr ⟨by rfl, rfl⟩) (by assumption) ?_
            (try simp only [Act.put, List.getElem_toArray, List.getElem_cons_zero, List.getElem_cons_succ, List.setIfInBounds_toArray, List.set_cons_zero, List.set_cons_succ])
            refine wpAnyH_take (i := 21) (oi := ({ dst := some 95, op := Go.Op.call { callee := Go.Callee.value (Go.Operand.func 34), args := #[Go.Operand.tmp 94], argTypes := #[25] }, type := 3, pos := "law.go:204", after := #[{ on := 20, ground := Go.Ground.data }, { on := 16, ground := Go.Ground.chain }, { on := 16, ground := Go.Ground.guard }], guard := some (16, false) } : Go.Oper)) (v := undef) rfl (by kernel_rfl) (by kernel_rfl) (by kernel_rfl) (fun _ _ _ h => h) (Or.inr ⟨by rfl, rfl⟩) (by assumption) ?_
            (try simp only [Act.put, List.getElem_toArray, List.getElem_cons_zero, List.getElem_cons_succ, List.setIfInBounds_toArray, List.set_cons_zero, List.set_cons_succ])
            refine wpAnyH_take (i := 22) (oi := ({ dst := some 96, op := Go.Op.move (Go.Operand.tmp 10), type := 22, pos := "law.go:204", after := #[{ on := 16, ground := Go.Ground.guard }], guard := some (16, false) } : Go.Oper)) (v := undef) rfl (by kernel_rfl) (by kernel_rfl) (by kernel_rfl) (fun _ _ _ h => h) (Or.inr ⟨by rfl, rfl⟩) (by assumption) ?_
            (try simp only [Act.put, List.getElem_toArray, List.getElem_cons_zero, List.getElem_cons_succ, List.setIfInBounds_toArray, List.set_cons_zero, List.set_cons_succ])
            refine wpAnyH_take (i := 23) (oi := ({ dst := some 97, op := Go.Op.call { callee := Go.Callee.builtin Go.Builtin.len, args := #[Go.Operand.tmp 96], argTypes := #[22] }, type := 3, pos := "law.go:204", after := #[{ on := 22, ground := Go.Ground.data }, { on := 16, ground := Go.Ground.guard }], guard := some (16, false) } : Go.Oper)) (v := undef) rfl (by kernel_rfl) (by kernel_rfl) (by kernel_rfl) (fun _ _ _ h => h) (Or.inr ⟨by rfl, rfl⟩) (by assumption) ?_
            (try simp only [Act.put, List.getElem_toArray, List.getElem_cons_zero, List.getElem_cons_succ, List.setIfInBounds_toArray, List.set_cons_zero, List.set_cons_succ])
            refine wpAnyH_take (i := 24) (oi := ({ dst := some 98, op := Go.Op.binOp Go.BinOp.neq 3 (Go.Operand.tmp 95) (Go.Operand.tmp 97) 3, type := 4, pos := "law.go:204", after := #[{ on := 21, ground := Go.Ground.data }, { on := 23, ground := Go.Ground.data }, { on := 16, ground := Go.Ground.guard }], guard := some (16, false) } : Go.Oper)) (v := undef) rfl (by kernel_rfl) (by kernel_rfl) (by kernel_rfl) (fun _ _ _ h => h) (Or.inr ⟨by rfl, rfl⟩) (by assumption) ?_
            (try simp only [Act.put, List.getElem_toArray, List.getElem_cons_zero, List.getElem_cons_succ, List.setIfInBounds_toArray, List.set_cons_zero, List.set_cons_succ])
            refine wpAnyH_take (i := 25) (oi := ({ dst := some 99, op := Go.Op.pick (Go.Operand.tmp 90) (Go.Operand.const (Go.Value.bool true)) (Go.Operand.tmp 98), type := 4, pos := "law.go:204", after := #[{ on := 16, ground := Go.Ground.data }, { on := 24, ground := Go.Ground.data }, { on := 3, ground := Go.Ground.guard }], guard := some (3, true) } : Go.Oper)) (v := undef) rfl (by kernel_rfl) (by kernel_rfl) (by kernel_rfl) (fun _ _ _ h => h) (Or.inr ⟨by rfl, rfl⟩) (by assumption) ?_
            (try simp only [Act.put, List.getElem_toArray, List.getElem_cons_zero, List.getElem_cons_succ, List.setIfInBounds_toArray, List.set_cons_zero, List.set_cons_succ])
            refine wpAnyH_take (i := 26) (oi := ({ dst := some 100, op := Go.Op.pick (Go.Operand.tmp 77) (Go.Operand.tmp 99) (Go.Operand.const (Go.Value.bool false)), type := 4, pos := "law.go:204", after := #[{ on := 3, ground := Go.Ground.data }, { on := 25, ground := Go.Ground.data }], guard := none } : Go.Oper)) (v := ?v54) rfl (by kernel_rfl) (by kernel_rfl) (by kernel_rfl) (fun _ _ _ h => h) (Or.inl ⟨by rfl, ?hy54⟩) (by assumption) ?rest54
            case hy54 => (intro w hSw; (try dsimp only at hSw); go_simp; (try with_reducible rfl))
            (try simp only [Act.put, List.getElem_toArray, List.getElem_cons_zero, List.getElem_cons_succ, List.setIfInBounds_toArray, List.set_cons_zero, List.set_cons_succ])
            refine wpAnyH_done (by kernel_rfl) ?_ _
            all_goals
              go_wp2
              go_roundw
              case rel => exact ⟨k + 1, by go_num, by omega, by omega, Lib.hid (X6.out.trans (by with_reducible (repeat (first | exact Ext.rfl_ _ | assumption | refine Ext.drew ?_ | refine Ext.drewN ?_ _ | refine Ext.alloc ?_ _ | refine Ext.trans ?_ (by assumption)))))⟩
              case measure => simp [intOf]; omega
        · skip
          by_cases h3 : (100000 : Int) < (m : Int)
          · go_wp2
            go_ret
            exact ⟨rfl, XT.out⟩
          go_wp2_with fail
          refine (read_any B m d x _ (HX.out.ext XT.out) (by unfold B40; omega)).mono ?_
          rintro e w5 ⟨v5, rfl, hf5, hw5⟩
          have HF5 := Lib.hid hf5
          obtain ⟨A5, n5, c5, B5, m5, d5, rfl, _, _, _, _, b1, b2, b3, b4, _, _⟩ := hf5
          have HB5 := Lib.hid (blk1 w5 (.cells #[.slice A5 n5 c5, .int .i64 (rdE x).seq, .int .i64 (rdE x).kind, .slice B5 m5 d5] 25))
          have XT5 := Lib.hid (XT.out.trans hw5)
          clear hw5
          obtain ⟨k0, k1, k2, k3, l0, l1, l2, l3⟩ := box4 HB5.out (w' := w5.alloc (.cells #[.slice A5 n5 c5, .int .i64 (rdE x).seq, .int .i64 (rdE x).kind, .slice B5 m5 d5] 25)) (Ext.rfl_ _)
          go_wp2_with fail
          refine (bytes_any _ (rdE x) _ (HF5.out.rd.ext (Ext.alloc (Ext.rfl_ _) _))).mono ?_
          rintro e w6 ⟨v6, rfl, o6, hw6⟩
          obtain ⟨A6, n6, c6, rfl, _, r6, _⟩ := o6.formN
          have R6 := Lib.hid r6
          have XT6 := Lib.hid ((XT5.out.alloc _).trans hw6)
          clear o6 r6 hw6 k0 k1 k2 k3 l0 l1 l2 l3
          rcases HE.out with hr | hr
          all_goals have S6 : Hid (rdN x = 0 → Rd w6 A6 n6 x) := Lib.hid (fun h0 => (by have := R6.out; rwa [(again_e h0).2] at this))
          · have hwe := (again_e hr).1
            have s1 := (S6.out hr).str (P := Try.prog) c6 22 5 9 Try.underlying22 Try.underlying5 Try.underlying9
            have s2 := (HX.out.ext XT6.out).str (P := Try.prog) d 22 5 9 Try.underlying22 Try.underlying5 Try.underlying9
            go_wp2_with fail
            refine (num_any _ _).mono ?_
            rintro e w7 ⟨rfl, rfl⟩
            go_wp2_with fail
            refine (num_any _ _).mono ?_
            rintro e w7 ⟨rfl, rfl⟩
            go_wp2_with fail
            refine (lists_any B m d x _ (HX.out.ext XT6.out) (by unfold B40; omega)).mono ?_
            rintro e w8 ⟨v8, b8, rfl, _, o8, hw8⟩
            obtain ⟨A8, n8, c8, rfl, _, r8, _⟩ := o8.formN (Nat.le_trans (rdL_len x) (by unfold B41; omega))
            have R8 := Lib.hid r8
            have XT8 := Lib.hid (XT6.out.trans hw8)
            clear o8 r8 hw8
            go_wp2_with fail
            refine (list_any A8 n8 c8 (rdL x) _ R8.out).mono ?_
            rintro e w9 ⟨v9, rfl, o9, hw9⟩
            obtain ⟨A9, n9, c9, rfl, _, r9, _⟩ := o9.formN
            have R9 := Lib.hid r9
            have XT9 := Lib.hid (XT8.out.trans hw9)
            clear o9 r9 hw9
            rcases HLE.out with hq | hq
            all_goals have S9 : Hid (rdLN x = 0 → Rd w9 A9 n9 x) := Lib.hid (fun h0 => (by have := R9.out; rwa [(again_l h0).2] at this))
            · have hwq := (again_l hq).1
              have s3 := (S9.out hq).str (P := Try.prog) c9 22 5 9 Try.underlying22 Try.underlying5 Try.underlying9
              have s4 := (HX.out.ext XT9.out).str (P := Try.prog) d 22 5 9 Try.underlying22 Try.underlying5 Try.underlying9
              go_wp2_with fail
              refine (num_any _ _).mono ?_
              rintro e wa ⟨rfl, rfl⟩
              go_wp2_with fail
              refine (num_any _ _).mono ?_
              rintro e wa ⟨rfl, rfl⟩
              go_wp2
              go_ret
              exact ⟨rfl, XT9.out⟩
            · go_wp2_with fail
              refine (num_any _ _).mono ?_
              rintro e wa ⟨rfl, rfl⟩
              go_wp2
              go_ret
              exact ⟨rfl, XT9.out⟩
          · go_wp2_with fail
            refine (num_any _ _).mono ?_
            rintro e w7 ⟨rfl, rfl⟩
            go_wp2_with fail
            refine (lists_any B m d x _ (HX.out.ext XT6.out) (by unfold B40; omega)).mono ?_
            rintro e w8 ⟨v8, b8, rfl, _, o8, hw8⟩
            obtain ⟨A8, n8, c8, rfl, _, r8, _⟩ := o8.formN (Nat.le_trans (rdL_len x) (by unfold B41; omega))
            have R8 := Lib.hid r8
            have XT8 := Lib.hid (XT6.out.trans hw8)
            clear o8 r8 hw8
            go_wp2_with fail
            refine (list_any A8 n8 c8 (rdL x) _ R8.out).mono ?_
            rintro e w9 ⟨v9, rfl, o9, hw9⟩
            obtain ⟨A9, n9, c9, rfl, _, r9, _⟩ := o9.formN
            have R9 := Lib.hid r9
            have XT9 := Lib.hid (XT8.out.trans hw9)
            clear o9 r9 hw9
            rcases HLE.out with hq | hq
            all_goals have S9 : Hid (rdLN x = 0 → Rd w9 A9 n9 x) := Lib.hid (fun h0 => (by have := R9.out; rwa [(again_l h0).2] at this))
            · have hwq := (again_l hq).1
              have s3 := (S9.out hq).str (P := Try.prog) c9 22 5 9 Try.underlying22 Try.underlying5 Try.underlying9
              have s4 := (HX.out.ext XT9.out).str (P := Try.prog) d 22 5 9 Try.underlying22 Try.underlying5 Try.underlying9
              go_wp2_with fail
              refine (num_any _ _).mono ?_
              rintro e wa ⟨rfl, rfl⟩
              go_wp2_with fail
              refine (num_any _ _).mono ?_
              rintro e wa ⟨rfl, rfl⟩
              go_wp2
              go_ret
              exact ⟨rfl, XT9.out⟩
            · go_wp2_with fail
              refine (num_any _ _).mono ?_
              rintro e wa ⟨rfl, rfl⟩
              go_wp2
              go_ret
              exact ⟨rfl, XT9.out⟩
      · skip
        by_cases h3 : (100000 : Int) < (m : Int)
        · go_wp2
          go_ret
          exact ⟨rfl, XT.out⟩
        go_wp2_with fail
        refine (read_any B m d x _ (HX.out.ext XT.out) (by unfold B40; omega)).mono ?_
        rintro e w5 ⟨v5, rfl, hf5, hw5⟩
        have HF5 := Lib.hid hf5
        obtain ⟨A5, n5, c5, B5, m5, d5, rfl, _, _, _, _, b1, b2, b3, b4, _, _⟩ := hf5
        have HB5 := Lib.hid (blk1 w5 (.cells #[.slice A5 n5 c5, .int .i64 (rdE x).seq, .int .i64 (rdE x).kind, .slice B5 m5 d5] 25))
        have XT5 := Lib.hid (XT.out.trans hw5)
        clear hw5
        obtain ⟨k0, k1, k2, k3, l0, l1, l2, l3⟩ := box4 HB5.out (w' := w5.alloc (.cells #[.slice A5 n5 c5, .int .i64 (rdE x).seq, .int .i64 (rdE x).kind, .slice B5 m5 d5] 25)) (Ext.rfl_ _)
        go_wp2_with fail
        refine (bytes_any _ (rdE x) _ (HF5.out.rd.ext (Ext.alloc (Ext.rfl_ _) _))).mono ?_
        rintro e w6 ⟨v6, rfl, o6, hw6⟩
        obtain ⟨A6, n6, c6, rfl, _, r6, _⟩ := o6.formN
        have R6 := Lib.hid r6
        have XT6 := Lib.hid ((XT5.out.alloc _).trans hw6)
        clear o6 r6 hw6 k0 k1 k2 k3 l0 l1 l2 l3
        rcases HE.out with hr | hr
        all_goals have S6 : Hid (rdN x = 0 → Rd w6 A6 n6 x) := Lib.hid (fun h0 => (by have := R6.out; rwa [(again_e h0).2] at this))
        · have hwe := (again_e hr).1
          have s1 := (S6.out hr).str (P := Try.prog) c6 22 5 9 Try.underlying22 Try.underlying5 Try.underlying9
          have s2 := (HX.out.ext XT6.out).str (P := Try.prog) d 22 5 9 Try.underlying22 Try.underlying5 Try.underlying9
          go_wp2_with fail
          refine (num_any _ _).mono ?_
          rintro e w7 ⟨rfl, rfl⟩
          go_wp2_with fail
          refine (num_any _ _).mono ?_
          rintro e w7 ⟨rfl, rfl⟩
          go_wp2_with fail
          refine (lists_any B m d x _ (HX.out.ext XT6.out) (by unfold B40; omega)).mono ?_
          rintro e w8 ⟨v8, b8, rfl, _, o8, hw8⟩
          obtain ⟨A8, n8, c8, rfl, _, r8, _⟩ := o8.formN (Nat.le_trans (rdL_len x) (by unfold B41; omega))
          have R8 := Lib.hid r8
          have XT8 := Lib.hid (XT6.out.trans hw8)
          clear o8 r8 hw8
          go_wp2_with fail
          refine (list_any A8 n8 c8 (rdL x) _ R8.out).mono ?_
          rintro e w9 ⟨v9, rfl, o9, hw9⟩
          obtain ⟨A9, n9, c9, rfl, _, r9, _⟩ := o9.formN
          have R9 := Lib.hid r9
          have XT9 := Lib.hid (XT8.out.trans hw9)
          clear o9 r9 hw9
          rcases HLE.out with hq | hq
          all_goals have S9 : Hid (rdLN x = 0 → Rd w9 A9 n9 x) := Lib.hid (fun h0 => (by have := R9.out; rwa [(again_l h0).2] at this))
          · have hwq := (again_l hq).1
            have s3 := (S9.out hq).str (P := Try.prog) c9 22 5 9 Try.underlying22 Try.underlying5 Try.underlying9
            have s4 := (HX.out.ext XT9.out).str (P := Try.prog) d 22 5 9 Try.underlying22 Try.underlying5 Try.underlying9
            go_wp2_with fail
            refine (num_any _ _).mono ?_
            rintro e wa ⟨rfl, rfl⟩
            go_wp2_with fail
            refine (num_any _ _).mono ?_
            rintro e wa ⟨rfl, rfl⟩
            go_wp2
            go_ret
            exact ⟨rfl, XT9.out⟩
          · go_wp2_with fail
            refine (num_any _ _).mono ?_
            rintro e wa ⟨rfl, rfl⟩
            go_wp2
            go_ret
            exact ⟨rfl, XT9.out⟩
        · go_wp2_with fail
          refine (num_any _ _).mono ?_
          rintro e w7 ⟨rfl, rfl⟩
          go_wp2_with fail
          refine (lists_any B m d x _ (HX.out.ext XT6.out) (by unfold B40; omega)).mono ?_
          rintro e w8 ⟨v8, b8, rfl, _, o8, hw8⟩
          obtain ⟨A8, n8, c8, rfl, _, r8, _⟩ := o8.formN (Nat.le_trans (rdL_len x) (by unfold B41; omega))
          have R8 := Lib.hid r8
          have XT8 := Lib.hid (XT6.out.trans hw8)
          clear o8 r8 hw8
          go_wp2_with fail
          refine (list_any A8 n8 c8 (rdL x) _ R8.out).mono ?_
          rintro e w9 ⟨v9, rfl, o9, hw9⟩
          obtain ⟨A9, n9, c9, rfl, _, r9, _⟩ := o9.formN
          have R9 := Lib.hid r9
          have XT9 := Lib.hid (XT8.out.trans hw9)
          clear o9 r9 hw9
          rcases HLE.out with hq | hq
          all_goals have S9 : Hid (rdLN x = 0 → Rd w9 A9 n9 x) := Lib.hid (fun h0 => (by have := R9.out; rwa [(again_l h0).2] at this))
          · have hwq := (again_l hq).1
            have s3 := (S9.out hq).str (P := Try.prog) c9 22 5 9 Try.underlying22 Try.underlying5 Try.underlying9
            have s4 := (HX.out.ext XT9.out).str (P := Try.prog) d 22 5 9 Try.underlying22 Try.underlying5 Try.underlying9
            go_wp2_with fail
            refine (num_any _ _).mono ?_
            rintro e wa ⟨rfl, rfl⟩
            go_wp2_with fail
            refine (num_any _ _).mono ?_
            rintro e wa ⟨rfl, rfl⟩
            go_wp2
            go_ret
            exact ⟨rfl, XT9.out⟩
          · go_wp2_with fail
            refine (num_any _ _).mono ?_
            rintro e wa ⟨rfl, rfl⟩
            go_wp2
            go_ret
            exact ⟨rfl, XT9.out⟩

end Go.Proofs.Ytpohmoakilioiaa
