/- The walk of BlockBack. Conditions: the entries and the bytes read. -/
import Derived.Test.YthfhococglbpoaaBlkU
import Derived.Deep.Cut
import Derived.Deep.CutRange
namespace Go.Proofs.Ythfhococglbpoaa
set_option linter.unusedSimpArgs false
set_option linter.unusedVariables false
open Go.RowKit

theorem back_is {b : Bs} (h : opN b = 0) : IsBlk b (opE b) := by
  unfold opN at h
  unfold opE
  cases hb : blkR b with
  | none => rw [hb] at h; simp at h
  | some l => exact blkR_is hb
theorem opN_or (b : Bs) : opN b = 0 ∨ opN b = 4 := by unfold opN; split <;> simp
theorem isblk_self {xs : List Ent} (h : mayL xs = true) : IsBlk (blkB xs) xs := ⟨h, rfl⟩
theorem blkB_small {xs : List Ent} (h : mayL xs = true) : (blkB xs).length ≤ B40 := by
  have h1 := (isblk_self h).may
  have h2 := (isblk_self h).len
  have h3 := bodF_len 0 [] xs h1
  have h4 := posB_len xs
  rw [blkB_len]
  unfold bodB B40
  omega
theorem find_self {xs : List Ent} (h : xs.Pairwise fun a b => cmpE a b < 0) {k : Nat} {x : Ent} (hk : xs[k]? = some x) : xs.find? (getP x.key x.seq) = some x := by
  obtain ⟨hk', rfl⟩ := List.getElem?_eq_some_iff.1 hk
  refine find_at hk' (fun y hy => ?_) (by simp [getP])
  obtain ⟨j, hj, rfl⟩ := List.getElem_of_mem hy
  rw [List.length_take] at hj
  rw [List.getElem_take]
  have h1 := List.pairwise_iff_getElem.1 h j k (by omega) hk' (by omega)
  refine decide_eq_false fun hh => ?_
  unfold cmpE orI cmpI at h1
  rw [hh.1, if_pos ((cmpK_eq_zero _ _).2 rfl)] at h1
  have := hh.2
  split at h1 <;> (try split at h1) <;> omega
theorem get_self {xs : List Ent} (h : mayL xs = true) {k : Nat} {x : Ent} (hk : xs[k]? = some x) : bgE (blkB xs) x.key x.seq = x ∧ bgN (blkB xs) x.key x.seq = 0 := by
  obtain ⟨e1, e2⟩ := op_yes (isblk_self h)
  have h1 : riseB xs = true := by unfold mayL at h; simp at h; exact h.2
  have h2 := find_self (rise_up h1) hk
  unfold bgE bgN
  rw [e1, e2, h2]
  exact ⟨rfl, rfl⟩
theorem bget_self (A : Option Addr) (n c : Nat) (B : Option Addr) (m d : Nat) (xs : List Ent) (k : Nat) (x : Ent) (w : World) (hx : Rd w A n (blkB xs)) (hnc : n ≤ c) (hm : mayL xs = true) (hi : xs[k]? = some x) (hk : Rd w B m x.key) (hmd : m ≤ d) :
    Calls Try.prog 13 #[.slice A n c, .slice B m d, .int .i64 x.seq] w fun e w' => ∃ A5 n5 c5 B5 m5 d5, e = .returned (.tuple #[.agg #[.slice A5 n5 c5, .int .i64 x.seq, .int .i64 x.kind, .slice B5 m5 d5], .int .i64 0]) ∧ RdE w' (.agg #[.slice A5 n5 c5, .int .i64 x.seq, .int .i64 x.kind, .slice B5 m5 d5]) x ∧ Ext w w' := by
  have hk40 : m ≤ B40 := by
    have h1 := (isblk_self hm).may x (List.mem_of_getElem? hi)
    have h2 := (mayE_iff.1 h1).2.1
    rw [← hk.1]
    unfold B40
    omega
  refine (bget_any A n c (blkB xs) B m d x.key x.seq w hx hnc (by rw [← hx.1]; exact blkB_small hm) hk hmd hk40).mono ?_
  rintro e w5 ⟨⟨v, rfl, hv⟩, hw⟩
  rw [(get_self hm hi).1] at hv
  rw [(get_self hm hi).2]
  obtain ⟨A5, n5, c5, B5, m5, d5, rfl, _⟩ := id hv
  exact ⟨A5, n5, c5, B5, m5, d5, rfl, hv, hw⟩
theorem goes_self (gb gk : Nat) (A : Option Addr) (n c : Nat) (xs : List Ent) (B : Option Addr) (m d : Nat) (k : Bs) (A' : Option Addr) (n' c' : Nat) (most : Int) (w0 w : World) (hm : mayL xs = true) (hb : Rd w0 A n (blkB xs)) (hnc : n ≤ c) (hk : Rd w0 B m k) (h0 : Ext w0 w)
    (hgb : w.cell? ⟨gb, 0, none⟩ = some (.slice A n c)) (hgk : w.cell? ⟨gk, 0, none⟩ = some (.slice B m d)) (hes : RdL w A' n' (xs.dropWhile fun y => decide (cmpK y.key k < 0))) :
    Calls Try.prog 19 #[.func (.func 41) #[] #[.pointer (some ⟨gb, 0, none⟩), .pointer (some ⟨gk, 0, none⟩)], .slice A' n' c', .int .i64 most] w fun e w' => e = .returned (.bool true) ∧ Ext w w' :=
  goesB_any gb gk A n c (blkB xs) B m d k A' n' c' most w0 w hb hnc (by rw [← hb.1]; exact blkB_small hm) hk h0 hgb hgk (by rw [(op_yes (isblk_self hm)).1]; exact hes)
theorem four_put {w : World} {g : Nat} {t : TypeId} {a b c d : Value} (hk : w.heap[g]? = some (.cells #[a, b, c, d] t (0, 0))) (u1 u2 u3 u4 : Value) :
    ((((w.setCell ⟨g, 0, none⟩ u1).setCell ⟨g, 1, none⟩ u2).setCell ⟨g, 2, none⟩ u3).setCell ⟨g, 3, none⟩ u4).heap[g]? = some (.cells #[u1, u2, u3, u4] t (0, 0)) := by
  simp [World.setCell, Array.getElem?_modify, hk]

/-- What Get's answer's cell holds. -/
def GetX (w wx : World) (g : Nat) (x : Ent) : Prop :=
  ∃ A n c B m d, wx.heap[g]? = some (.cells #[.slice A n c, .int .i64 x.seq, .int .i64 x.kind, .slice B m d] 28 (0, 0)) ∧ RdE wx (.agg #[.slice A n c, .int .i64 x.seq, .int .i64 x.kind, .slice B m d]) x ∧ Ext w wx

set_option maxRecDepth 100000 in
set_option maxHeartbeats 4000000 in
theorem bback_walk (A : Option Addr) (n c : Nat) (B : Option Addr) (m d : Nat) (xs : List Ent) (x : Bs) (w : World) (hl : RdL w A n xs) (hnc : n ≤ c) (hx : Rd w B m x) (hmd : m ≤ d) (hm47 : m ≤ B47) :
    Calls Try.prog 6 #[.slice A n c, .slice B m d] w fun e w' => e = .returned (.bool true) ∧ Ext w w' := by
  have HL := Lib.hid hl
  have HB := Lib.hid hx
  have hxl := hl.1
  clear hl hx
  go_enter Try.func6, Try.ntmps6
  go_wp2_with fail
  refine (known_any _).mono ?_
  rintro e w1 ⟨rfl, hw1⟩
  have X1 := Lib.hid hw1
  clear hw1
  go_upto_if 20 with (fail)
  go_cut [] from 5 (fun wx => Hid (Ext w wx))
  case first =>
    by_cases h1 : (m : Int) ≤ 100000
    · go_wp2_with fail
      refine (bread_any B m d x _ (HB.out.ext X1.out) hmd (by unfold B40; omega)).mono ?_
      rintro e w2 ⟨vl, rfl, of2, hw2⟩
      have hlen := opE_len x
      obtain ⟨Al, nl, cl, rfl, hcl, rl, _⟩ := of2.ownL.formN (by unfold B41; omega)
      have RL := Lib.hid rl
      have X2 := Lib.hid (X1.out.trans hw2)
      clear of2 rl hw2 hlen
      go_wp2_with fail
      refine (write_any Al nl cl (opE x) _ RL.out hcl).mono ?_
      rintro e w3 ⟨v3, rfl, o3, hw3⟩
      have X3 := Lib.hid (X2.out.trans hw3)
      clear hw3
      rcases opN_or x with h0 | h0
      · have HI := Lib.hid (back_is h0)
        rw [if_pos HI.out.1, HI.out.2] at o3
        rw [if_pos HI.out.1]
        rw [h0]
        clear h0
        obtain ⟨A3, n3, c3, rfl, l3, r3, _⟩ := o3.formN
        have s1 := r3.str (P := Try.prog) c3 22 5 9 Try.underlying22 Try.underlying5 Try.underlying9
        have s2 := (HB.out.ext X3.out).str (P := Try.prog) d 22 5 9 Try.underlying22 Try.underlying5 Try.underlying9
        clear o3 r3
        go_wp2_with fail
        refine (num_any _ _).mono ?_
        rintro e w7 ⟨rfl, rfl⟩
        go_wp2_with fail
        refine (num_any _ _).mono ?_
        rintro e w7 ⟨rfl, rfl⟩
        go_wp2
        go_meet
        exact X3
      · rw [h0]
        clear h0
        obtain ⟨z, hz⟩ : ∃ z : Int, z = (if mayL (opE x) = true then 0 else 2) := ⟨_, rfl⟩
        rw [← hz]
        clear hz
        obtain ⟨A3, n3, c3, rfl, l3, r3, _⟩ := o3.formN
        clear o3 r3
        go_wp2_with fail
        refine (num_any _ _).mono ?_
        rintro e w7 ⟨rfl, rfl⟩
        go_wp2
        go_meet
        exact X3
    · have d1 : decide ((m : Int) ≤ 100000) = false := decide_eq_false h1
      have d2 : decide (m ≤ 100000) = false := decide_eq_false (by omega)
      go_wp2
      go_meet
      exact X1
  case rest =>
    have X2 : Hid (Ext w wc) := hcut
    clear hcut X1
    go_wp2_with fail
    refine (much_any A n c xs _ (HL.out.ext X2.out) hnc).mono ?_
    rintro e w3 ⟨rfl, hw3⟩
    have X3 := Lib.hid (X2.out.trans hw3)
    clear hw3
    cases hmm : mch xs with
    | true =>
      go_wp2
      go_ret
      exact ⟨rfl, X3.out⟩
    | false =>
      go_wp2_with fail
      refine (write_any A n c xs _ (HL.out.ext X3.out) hnc).mono ?_
      rintro e w4 ⟨v4, rfl, o4, hw4⟩
      have X4 := Lib.hid (X3.out.trans hw4)
      clear hw4 hmm
      cases hmay : mayL xs with
      | false =>
        rw [if_neg (by rw [hmay]; simp)] at o4
        rw [if_neg (by simp)]
        clear hmay
        obtain ⟨A4, n4, c4, rfl, l4, r4, _⟩ := o4.formN
        have hn4 : n4 = 0 := r4.1.symm
        subst hn4
        clear o4 r4
        go_wp2_with fail
        refine (num_any _ _).mono ?_
        rintro e w7 ⟨rfl, rfl⟩
        go_wp2
        go_ret
        exact ⟨rfl, X4.out⟩
      | true =>
        rw [if_pos hmay] at o4
        rw [if_pos rfl]
        have HM := Lib.hid hmay
        clear hmay
        obtain ⟨A4, n4, c4, rfl, l4, r4, _⟩ := o4.formN
        have R4 := Lib.hid r4
        clear o4 r4
        go_wp2_with fail
        refine (num_any _ _).mono ?_
        rintro e w7 ⟨rfl, rfl⟩
        go_wp2_with fail
        refine (bread_any A4 n4 c4 (blkB xs) _ R4.out l4 (by rw [← R4.out.1]; exact blkB_small HM.out)).mono ?_
        rintro e w5 ⟨vl, rfl, of5, hw5⟩
        rw [(op_yes (isblk_self HM.out)).2]
        rw [(op_yes (isblk_self HM.out)).1] at of5
        obtain ⟨A5, n5, c5, rfl, l5, r5, _⟩ := of5.ownL.formN (by rw [hxl]; exact HL.out.2.1)
        have R5 := Lib.hid r5
        have X5 := Lib.hid (X4.out.trans hw5)
        have R45 := Lib.hid (R4.out.ext hw5)
        clear of5 r5 hw5 R4
        go_wp2_with fail
        refine (num_any _ _).mono ?_
        rintro e w7 ⟨rfl, rfl⟩
        go_wp2_with fail
        refine (rsameL_any A5 n5 c5 A n c xs xs _ R5.out (HL.out.ext X5.out)).mono ?_
        rintro e w6 ⟨rfl, hw6⟩
        rw [decide_eq_true rfl]
        have X6 := Lib.hid (X5.out.trans hw6)
        have R46 := Lib.hid (R45.out.ext hw6)
        clear hw6 R45 R5
        go_wp2
        go_loopw [13] (fun i wr => ∃ k : Nat, i = .int .i64 k ∧ k ≤ n ∧ k ≤ 40 ∧ Hid (Ext w6 wr)) (fun i _ => n - (intOf i).toNat)
        case atStart => exact ⟨0, rfl, Nat.zero_le _, by omega, Lib.hid (Ext.rfl_ _)⟩
        case round =>
          obtain ⟨k, rfl, hk, hk1, XT⟩ := hrel
          by_cases c1 : (k : Int) < (n : Int)
          · by_cases c2 : (k : Int) < 40
            · obtain ⟨b, o, A1, n1, c1', A1', n1', c1'', x1, rfl, hx1, ⟨q0, q1, q2, q3⟩, hr⟩ := HL.out.at_ k (by omega)
              have hS : ∀ W, Ext w W → (W.cell? ⟨b, o + k * 4, none⟩ = some (.slice A1 n1 c1') ∧ W.cell? ⟨b, o + k * 4 + 1, none⟩ = some (.int .i64 x1.seq) ∧ W.cell? ⟨b, o + k * 4 + 2, none⟩ = some (.int .i64 x1.kind) ∧ W.cell? ⟨b, o + k * 4 + 3, none⟩ = some (.slice A1' n1' c1'')) := fun W K =>
                ⟨K.keeps _ _ _ q0, K.keeps _ _ _ q1, K.keeps _ _ _ q2, K.keeps _ _ _ q3⟩
              have HS := Lib.hid hS
              have HR := Lib.hid hr
              have HX1 := Lib.hid hx1
              obtain ⟨hrk, hck⟩ : Rd w A1 n1 x1.key ∧ n1 ≤ c1' ∧ n1 ≤ B47 := by
                obtain ⟨_, _, _, _, _, _, hv, h1, _, h2, h3, _⟩ := hr
                cases hv
                exact ⟨h1, h2, h3⟩
              have HRK := Lib.hid hrk
              have XW := Lib.hid (X6.out.trans XT.out)
              clear hS hr hx1 q0 q1 q2 q3 hrk
              go_upto_region 19 with (fail)
              go_cut [14, 15] from 73 to 127 (fun v14 v15 wx => ∃ g, v14 = .pointer (some ⟨g, 0, none⟩) ∧ v15 = .int .i64 0 ∧ GetX wr wx g x1)
              case first =>
                go_wp2
                refine wp_region_held_drew (S := (fun W => W.cell? ⟨b, o + k * 4, none⟩ = some (.slice A1 n1 c1') ∧ W.cell? ⟨b, o + k * 4 + 1, none⟩ = some (.int .i64 x1.seq))) (by kernel_rfl) (by (try dsimp only); exact ⟨(HS.out _ (XW.out.trans (by with_reducible (repeat (first | exact Ext.rfl_ _ | assumption | refine Ext.drew ?_ | refine Ext.drewN ?_ _ | refine Ext.alloc ?_ _ | refine Ext.setCell ?_ (by first | (simp; done) | (simp; omega)) _ | refine Ext.trans ?_ (by assumption)))))).1, (HS.out _ (XW.out.trans (by with_reducible (repeat (first | exact Ext.rfl_ _ | assumption | refine Ext.drew ?_ | refine Ext.drewN ?_ _ | refine Ext.alloc ?_ _ | refine Ext.setCell ?_ (by first | (simp; done) | (simp; omega)) _ | refine Ext.trans ?_ (by assumption)))))).2.1⟩) (fun hHeld => ?_)
                refine wpAnyH_take (i := 0) (oi := ({ dst := some 84, op := Go.Op.move (Go.Operand.tmp 9), type := 22, pos := "law.go:152", after := #[], guard := none } : Go.Oper)) (v := ?v1) rfl (by kernel_rfl) (by kernel_rfl) (by kernel_rfl) (fun _ _ _ h => h) (Or.inl ⟨by rfl, ?hy1⟩) (by assumption) ?rest1
                case hy1 => (intro w hSw; (try dsimp only at hSw); go_simp; (try with_reducible rfl))
                (try simp only [Act.put, List.getElem_toArray, List.getElem_cons_zero, List.getElem_cons_succ, List.setIfInBounds_toArray, List.set_cons_zero, List.set_cons_succ])
                refine wpAnyH_take (i := 1) (oi := ({ dst := some 85, op := Go.Op.move (Go.Operand.tmp 0), type := 37, pos := "law.go:152", after := #[], guard := none } : Go.Oper)) (v := ?v2) rfl (by kernel_rfl) (by kernel_rfl) (by kernel_rfl) (fun _ _ _ h => h) (Or.inl ⟨by rfl, ?hy2⟩) (by assumption) ?rest2
                case hy2 => (intro w hSw; (try dsimp only at hSw); go_simp; (try with_reducible rfl))
                (try simp only [Act.put, List.getElem_toArray, List.getElem_cons_zero, List.getElem_cons_succ, List.setIfInBounds_toArray, List.set_cons_zero, List.set_cons_succ])
                refine wpAnyH_take (i := 2) (oi := ({ dst := some 86, op := Go.Op.move (Go.Operand.tmp 13), type := 3, pos := "law.go:152", after := #[], guard := none } : Go.Oper)) (v := ?v3) rfl (by kernel_rfl) (by kernel_rfl) (by kernel_rfl) (fun _ _ _ h => h) (Or.inl ⟨by rfl, ?hy3⟩) (by assumption) ?rest3
                case hy3 => (intro w hSw; (try dsimp only at hSw); go_simp; (try with_reducible rfl))
                (try simp only [Act.put, List.getElem_toArray, List.getElem_cons_zero, List.getElem_cons_succ, List.setIfInBounds_toArray, List.set_cons_zero, List.set_cons_succ])
                refine wpAnyH_take (i := 3) (oi := ({ dst := some 87, op := Go.Op.indexAddr 37 (Go.Operand.tmp 85) (Go.Operand.tmp 86), type := 0, pos := "law.go:152", after := #[{ on := 1, ground := Go.Ground.data }, { on := 2, ground := Go.Ground.data }], guard := none } : Go.Oper)) (v := ?v4) rfl (by kernel_rfl) (by kernel_rfl) (by kernel_rfl) (fun _ _ _ h => h) (Or.inl ⟨by rfl, ?hy4⟩) (by assumption) ?rest4
                case hy4 => (intro w hSw; (try dsimp only at hSw); go_simp; (try with_reducible rfl))
                (try simp only [Act.put, List.getElem_toArray, List.getElem_cons_zero, List.getElem_cons_succ, List.setIfInBounds_toArray, List.set_cons_zero, List.set_cons_succ])
                refine wpAnyH_take (i := 4) (oi := ({ dst := some 88, op := Go.Op.fieldAddr 28 (Go.Operand.tmp 87) 0, type := 0, pos := "law.go:152", after := #[{ on := 3, ground := Go.Ground.data }], guard := none } : Go.Oper)) (v := ?v5) rfl (by kernel_rfl) (by kernel_rfl) (by kernel_rfl) (fun _ _ _ h => h) (Or.inl ⟨by rfl, ?hy5⟩) (by assumption) ?rest5
                case hy5 => (intro w hSw; (try dsimp only at hSw); go_simp; (try with_reducible rfl))
                (try simp only [Act.put, List.getElem_toArray, List.getElem_cons_zero, List.getElem_cons_succ, List.setIfInBounds_toArray, List.set_cons_zero, List.set_cons_succ])
                refine wpAnyH_take (i := 5) (oi := ({ dst := some 89, op := Go.Op.load 22 (Go.Operand.tmp 88), type := 22, pos := "law.go:152", after := #[{ on := 4, ground := Go.Ground.data }], guard := none } : Go.Oper)) (v := ?v6) rfl (by kernel_rfl) (by kernel_rfl) (by kernel_rfl) (fun _ _ _ h => h) (Or.inl ⟨by rfl, ?hy6⟩) (by assumption) ?rest6
                case hy6 => (intro w hSw; (try dsimp only at hSw); go_simp; (try with_reducible rfl))
                (try simp only [Act.put, List.getElem_toArray, List.getElem_cons_zero, List.getElem_cons_succ, List.setIfInBounds_toArray, List.set_cons_zero, List.set_cons_succ])
                refine wpAnyH_take (i := 6) (oi := ({ dst := some 90, op := Go.Op.move (Go.Operand.tmp 0), type := 37, pos := "law.go:152", after := #[], guard := none } : Go.Oper)) (v := ?v7) rfl (by kernel_rfl) (by kernel_rfl) (by kernel_rfl) (fun _ _ _ h => h) (Or.inl ⟨by rfl, ?hy7⟩) (by assumption) ?rest7
                case hy7 => (intro w hSw; (try dsimp only at hSw); go_simp; (try with_reducible rfl))
                (try simp only [Act.put, List.getElem_toArray, List.getElem_cons_zero, List.getElem_cons_succ, List.setIfInBounds_toArray, List.set_cons_zero, List.set_cons_succ])
                refine wpAnyH_take (i := 7) (oi := ({ dst := some 91, op := Go.Op.move (Go.Operand.tmp 13), type := 3, pos := "law.go:152", after := #[], guard := none } : Go.Oper)) (v := ?v8) rfl (by kernel_rfl) (by kernel_rfl) (by kernel_rfl) (fun _ _ _ h => h) (Or.inl ⟨by rfl, ?hy8⟩) (by assumption) ?rest8
                case hy8 => (intro w hSw; (try dsimp only at hSw); go_simp; (try with_reducible rfl))
                (try simp only [Act.put, List.getElem_toArray, List.getElem_cons_zero, List.getElem_cons_succ, List.setIfInBounds_toArray, List.set_cons_zero, List.set_cons_succ])
                refine wpAnyH_take (i := 8) (oi := ({ dst := some 92, op := Go.Op.indexAddr 37 (Go.Operand.tmp 90) (Go.Operand.tmp 91), type := 0, pos := "law.go:152", after := #[{ on := 6, ground := Go.Ground.data }, { on := 7, ground := Go.Ground.data }], guard := none } : Go.Oper)) (v := ?v9) rfl (by kernel_rfl) (by kernel_rfl) (by kernel_rfl) (fun _ _ _ h => h) (Or.inl ⟨by rfl, ?hy9⟩) (by assumption) ?rest9
                case hy9 => (intro w hSw; (try dsimp only at hSw); go_simp; (try with_reducible rfl))
                (try simp only [Act.put, List.getElem_toArray, List.getElem_cons_zero, List.getElem_cons_succ, List.setIfInBounds_toArray, List.set_cons_zero, List.set_cons_succ])
                refine wpAnyH_take (i := 9) (oi := ({ dst := some 93, op := Go.Op.fieldAddr 28 (Go.Operand.tmp 92) 1, type := 0, pos := "law.go:152", after := #[{ on := 8, ground := Go.Ground.data }], guard := none } : Go.Oper)) (v := ?v10) rfl (by kernel_rfl) (by kernel_rfl) (by kernel_rfl) (fun _ _ _ h => h) (Or.inl ⟨by rfl, ?hy10⟩) (by assumption) ?rest10
                case hy10 => (intro w hSw; (try dsimp only at hSw); go_simp; (try with_reducible rfl))
                (try simp only [Act.put, List.getElem_toArray, List.getElem_cons_zero, List.getElem_cons_succ, List.setIfInBounds_toArray, List.set_cons_zero, List.set_cons_succ])
                refine wpAnyH_take (i := 10) (oi := ({ dst := some 94, op := Go.Op.load 2 (Go.Operand.tmp 93), type := 2, pos := "law.go:152", after := #[{ on := 9, ground := Go.Ground.data }], guard := none } : Go.Oper)) (v := ?v11) rfl (by kernel_rfl) (by kernel_rfl) (by kernel_rfl) (fun _ _ _ h => h) (Or.inl ⟨by rfl, ?hy11⟩) (by assumption) ?rest11
                case hy11 => (intro w hSw; (try dsimp only at hSw); go_simp; (try with_reducible rfl))
                (try simp only [Act.put, List.getElem_toArray, List.getElem_cons_zero, List.getElem_cons_succ, List.setIfInBounds_toArray, List.set_cons_zero, List.set_cons_succ])
                refine wpAnyH_ready (rs := [11, 15]) (by kernel_rfl) (by simp) ?_
                refine AllReadyH.cons (o := ({ dst := some 95, op := Go.Op.call { callee := Go.Callee.value (Go.Operand.func 13), args := #[Go.Operand.tmp 84, Go.Operand.tmp 89, Go.Operand.tmp 94], argTypes := #[22, 22, 2] }, type := 30, pos := "law.go:152", after := #[{ on := 0, ground := Go.Ground.data }, { on := 5, ground := Go.Ground.data }, { on := 10, ground := Go.Ground.data }], guard := none } : Go.Oper)) rfl (fun K hK => ?one12) ?more12
                case' one12 =>
                  go_simp
                  refine (bget_self A4 n4 c4 A1 n1 c1' xs k x1 _ (R46.out.ext (XT.out.trans (by with_reducible (repeat (first | exact Ext.rfl_ _ | assumption | refine Ext.drew ?_ | refine Ext.drewN ?_ _ | refine Ext.alloc ?_ _ | refine Ext.trans ?_ (by assumption)))))) l4 HM.out HX1.out (HRK.out.ext (XW.out.trans (by with_reducible (repeat (first | exact Ext.rfl_ _ | assumption | refine Ext.drew ?_ | refine Ext.drewN ?_ _ | refine Ext.alloc ?_ _ | refine Ext.trans ?_ (by assumption)))))) hck.1).mono ?_; rintro e w7 ⟨A7, n7, c7, B7, m7, d7, rfl, hv7, hw7⟩; (first | (have hz7 : Ext (World.drew (wr.alloc (.cells #[.slice none 0 0, .int .i64 0, .int .i64 0, .slice none 0 0] 28))) w7 := hw7; obtain ⟨z0, z1, z2, z3, y0, y1, y2, y3⟩ := box4 (g := wr.heap.size) (blk1 wr (.cells #[.slice none 0 0, .int .i64 0, .int .i64 0, .slice none 0 0] 28)) ((Ext.drew (Ext.rfl_ _)).trans hz7); clear hz7) | skip)
                  (try (go_wp2_with fail))
                  refine hK.out _ _ (by (try dsimp only); exact ⟨(HS.out _ (XW.out.trans (by with_reducible (repeat (first | exact Ext.rfl_ _ | assumption | refine Ext.drew ?_ | refine Ext.drewN ?_ _ | refine Ext.alloc ?_ _ | refine Ext.setCell ?_ (by first | (simp; done) | (simp; omega)) _ | refine Ext.trans ?_ (by assumption)))))).1, (HS.out _ (XW.out.trans (by with_reducible (repeat (first | exact Ext.rfl_ _ | assumption | refine Ext.drew ?_ | refine Ext.drewN ?_ _ | refine Ext.alloc ?_ _ | refine Ext.setCell ?_ (by first | (simp; done) | (simp; omega)) _ | refine Ext.trans ?_ (by assumption)))))).2.1⟩) (fun hHeld => ?_)
                  clear hK K
                  (try simp only [Act.put, List.getElem_toArray, List.getElem_cons_zero, List.getElem_cons_succ, List.setIfInBounds_toArray, List.set_cons_zero, List.set_cons_succ])
                  refine wpAnyH_take (i := 12) (oi := ({ dst := some 83, op := Go.Op.move (Go.Operand.tmp 95), type := 30, pos := "law.go:152", after := #[{ on := 11, ground := Go.Ground.data }], guard := none } : Go.Oper)) (v := ?v13) rfl (by kernel_rfl) (by kernel_rfl) (by kernel_rfl) (fun _ _ _ h => h) (Or.inl ⟨by rfl, ?hy13⟩) (by assumption) ?rest13
                  case hy13 => (intro w hSw; (try dsimp only at hSw); go_simp; (try with_reducible rfl))
                  (try simp only [Act.put, List.getElem_toArray, List.getElem_cons_zero, List.getElem_cons_succ, List.setIfInBounds_toArray, List.set_cons_zero, List.set_cons_succ])
                  refine wpAnyH_take (i := 13) (oi := ({ dst := some 96, op := Go.Op.extract (Go.Operand.tmp 83) 0, type := 28, pos := "law.go:152", after := #[{ on := 12, ground := Go.Ground.data }], guard := none } : Go.Oper)) (v := ?v14) rfl (by kernel_rfl) (by kernel_rfl) (by kernel_rfl) (fun _ _ _ h => h) (Or.inl ⟨by rfl, ?hy14⟩) (by assumption) ?rest14
                  case hy14 => (intro w hSw; (try dsimp only at hSw); go_simp; (try with_reducible rfl))
                  (try simp only [Act.put, List.getElem_toArray, List.getElem_cons_zero, List.getElem_cons_succ, List.setIfInBounds_toArray, List.set_cons_zero, List.set_cons_succ])
                  refine wpAnyH_take (i := 14) (oi := ({ dst := some 97, op := Go.Op.extract (Go.Operand.tmp 83) 1, type := 29, pos := "law.go:152", after := #[{ on := 12, ground := Go.Ground.data }, { on := 16, ground := Go.Ground.gcOnly Go.Departure.lateStores }], guard := none } : Go.Oper)) (v := ?v15) rfl (by kernel_rfl) (by kernel_rfl) (by kernel_rfl) (fun _ _ _ h => h) (Or.inl ⟨by rfl, ?hy15⟩) (by assumption) ?rest15
                  case hy15 => (intro w hSw; (try dsimp only at hSw); go_simp; (try with_reducible rfl))
                  (try simp only [Act.put, List.getElem_toArray, List.getElem_cons_zero, List.getElem_cons_succ, List.setIfInBounds_toArray, List.set_cons_zero, List.set_cons_succ])
                  refine wpAnyH_ready (rs := [15]) (by kernel_rfl) (by simp) ?_
                  refine AllReadyH.cons (o := ({ dst := some 14, op := Go.Op.alloc 28, type := 0, pos := "law.go:152", after := #[], guard := none } : Go.Oper)) rfl (fun K hK => ?_) AllReadyH.nil
                  go_simp
                  refine hK.out _ _ (by (try dsimp only); exact ⟨(HS.out _ (XW.out.trans (by with_reducible (repeat (first | exact Ext.rfl_ _ | assumption | refine Ext.drew ?_ | refine Ext.drewN ?_ _ | refine Ext.alloc ?_ _ | refine Ext.setCell ?_ (by first | (simp; done) | (simp; omega)) _ | refine Ext.trans ?_ (by assumption)))))).1, (HS.out _ (XW.out.trans (by with_reducible (repeat (first | exact Ext.rfl_ _ | assumption | refine Ext.drew ?_ | refine Ext.drewN ?_ _ | refine Ext.alloc ?_ _ | refine Ext.setCell ?_ (by first | (simp; done) | (simp; omega)) _ | refine Ext.trans ?_ (by assumption)))))).2.1⟩) (fun hHeld => ?_)
                  clear hK K
                  (try simp only [Act.put, List.getElem_toArray, List.getElem_cons_zero, List.getElem_cons_succ, List.setIfInBounds_toArray, List.set_cons_zero, List.set_cons_succ])
                  refine wpAnyH_ready (rs := [16]) (by kernel_rfl) (by simp) ?_
                  refine AllReadyH.cons (o := ({ dst := none, op := Go.Op.store 28 (Go.Operand.tmp 14) (Go.Operand.tmp 96), type := 0, pos := "law.go:152", after := #[{ on := 15, ground := Go.Ground.data }, { on := 13, ground := Go.Ground.data }, { on := 11, ground := Go.Ground.chain }, { on := 0, ground := Go.Ground.phase }, { on := 1, ground := Go.Ground.phase }, { on := 2, ground := Go.Ground.phase }, { on := 3, ground := Go.Ground.phase }, { on := 4, ground := Go.Ground.phase }, { on := 5, ground := Go.Ground.phase }, { on := 6, ground := Go.Ground.phase }, { on := 7, ground := Go.Ground.phase }, { on := 8, ground := Go.Ground.phase }, { on := 9, ground := Go.Ground.phase }, { on := 10, ground := Go.Ground.phase }, { on := 11, ground := Go.Ground.phase }, { on := 12, ground := Go.Ground.phase }, { on := 13, ground := Go.Ground.phase }, { on := 14, ground := Go.Ground.textOnly Go.Departure.lateStores }, { on := 15, ground := Go.Ground.phase }], guard := none } : Go.Oper)) rfl (fun K hK => ?_) AllReadyH.nil
                  go_simp
                  refine hK.out _ _ (by (try dsimp only); exact ⟨(HS.out _ (XW.out.trans (by with_reducible (repeat (first | exact Ext.rfl_ _ | assumption | refine Ext.drew ?_ | refine Ext.drewN ?_ _ | refine Ext.alloc ?_ _ | refine Ext.setCell ?_ (by first | (simp; done) | (simp; omega)) _ | refine Ext.trans ?_ (by assumption)))))).1, (HS.out _ (XW.out.trans (by with_reducible (repeat (first | exact Ext.rfl_ _ | assumption | refine Ext.drew ?_ | refine Ext.drewN ?_ _ | refine Ext.alloc ?_ _ | refine Ext.setCell ?_ (by first | (simp; done) | (simp; omega)) _ | refine Ext.trans ?_ (by assumption)))))).2.1⟩) (fun hHeld => ?_)
                  clear hK K
                  (try simp only [Act.put, List.getElem_toArray, List.getElem_cons_zero, List.getElem_cons_succ, List.setIfInBounds_toArray, List.set_cons_zero, List.set_cons_succ])
                  refine wpAnyH_take (i := 17) (oi := ({ dst := some 15, op := Go.Op.assign (Go.Operand.tmp 97), type := 29, pos := "law.go:152", after := #[{ on := 14, ground := Go.Ground.data }, { on := 16, ground := Go.Ground.chain }, { on := 0, ground := Go.Ground.phase }, { on := 1, ground := Go.Ground.phase }, { on := 2, ground := Go.Ground.phase }, { on := 3, ground := Go.Ground.phase }, { on := 4, ground := Go.Ground.phase }, { on := 5, ground := Go.Ground.phase }, { on := 6, ground := Go.Ground.phase }, { on := 7, ground := Go.Ground.phase }, { on := 8, ground := Go.Ground.phase }, { on := 9, ground := Go.Ground.phase }, { on := 10, ground := Go.Ground.phase }, { on := 11, ground := Go.Ground.phase }, { on := 12, ground := Go.Ground.phase }, { on := 13, ground := Go.Ground.phase }, { on := 14, ground := Go.Ground.phase }, { on := 15, ground := Go.Ground.phase }, { on := 16, ground := Go.Ground.phase }], guard := none } : Go.Oper)) (v := ?v16) rfl (by kernel_rfl) (by kernel_rfl) (by kernel_rfl) (fun _ _ _ h => h) (Or.inl ⟨by rfl, ?hy16⟩) (by assumption) ?rest16
                  case hy16 => (intro w hSw; (try dsimp only at hSw); go_simp; (try with_reducible rfl))
                  (try simp only [Act.put, List.getElem_toArray, List.getElem_cons_zero, List.getElem_cons_succ, List.setIfInBounds_toArray, List.set_cons_zero, List.set_cons_succ])
                  refine wpAnyH_done (by kernel_rfl) ?_ _
                case' more12 =>
                  refine AllReadyH.cons (o := ({ dst := some 14, op := Go.Op.alloc 28, type := 0, pos := "law.go:152", after := #[], guard := none } : Go.Oper)) rfl (fun K hK => ?_) AllReadyH.nil
                  go_simp
                  refine hK.out _ _ (by (try dsimp only); exact ⟨(HS.out _ (XW.out.trans (by with_reducible (repeat (first | exact Ext.rfl_ _ | assumption | refine Ext.drew ?_ | refine Ext.drewN ?_ _ | refine Ext.alloc ?_ _ | refine Ext.setCell ?_ (by first | (simp; done) | (simp; omega)) _ | refine Ext.trans ?_ (by assumption)))))).1, (HS.out _ (XW.out.trans (by with_reducible (repeat (first | exact Ext.rfl_ _ | assumption | refine Ext.drew ?_ | refine Ext.drewN ?_ _ | refine Ext.alloc ?_ _ | refine Ext.setCell ?_ (by first | (simp; done) | (simp; omega)) _ | refine Ext.trans ?_ (by assumption)))))).2.1⟩) (fun hHeld => ?_)
                  clear hK K
                  (try simp only [Act.put, List.getElem_toArray, List.getElem_cons_zero, List.getElem_cons_succ, List.setIfInBounds_toArray, List.set_cons_zero, List.set_cons_succ])
                  refine wpAnyH_ready (rs := [11]) (by kernel_rfl) (by simp) ?_
                  refine AllReadyH.cons (o := ({ dst := some 95, op := Go.Op.call { callee := Go.Callee.value (Go.Operand.func 13), args := #[Go.Operand.tmp 84, Go.Operand.tmp 89, Go.Operand.tmp 94], argTypes := #[22, 22, 2] }, type := 30, pos := "law.go:152", after := #[{ on := 0, ground := Go.Ground.data }, { on := 5, ground := Go.Ground.data }, { on := 10, ground := Go.Ground.data }], guard := none } : Go.Oper)) rfl (fun K hK => ?_) AllReadyH.nil
                  go_simp
                  refine (bget_self A4 n4 c4 A1 n1 c1' xs k x1 _ (R46.out.ext (XT.out.trans (by with_reducible (repeat (first | exact Ext.rfl_ _ | assumption | refine Ext.drew ?_ | refine Ext.drewN ?_ _ | refine Ext.alloc ?_ _ | refine Ext.trans ?_ (by assumption)))))) l4 HM.out HX1.out (HRK.out.ext (XW.out.trans (by with_reducible (repeat (first | exact Ext.rfl_ _ | assumption | refine Ext.drew ?_ | refine Ext.drewN ?_ _ | refine Ext.alloc ?_ _ | refine Ext.trans ?_ (by assumption)))))) hck.1).mono ?_; rintro e w7 ⟨A7, n7, c7, B7, m7, d7, rfl, hv7, hw7⟩; (first | (have hz7 : Ext (World.drew (wr.alloc (.cells #[.slice none 0 0, .int .i64 0, .int .i64 0, .slice none 0 0] 28))) w7 := hw7; obtain ⟨z0, z1, z2, z3, y0, y1, y2, y3⟩ := box4 (g := wr.heap.size) (blk1 wr (.cells #[.slice none 0 0, .int .i64 0, .int .i64 0, .slice none 0 0] 28)) ((Ext.drew (Ext.rfl_ _)).trans hz7); clear hz7) | skip)
                  (try (go_wp2_with fail))
                  refine hK.out _ _ (by (try dsimp only); exact ⟨(HS.out _ (XW.out.trans (by with_reducible (repeat (first | exact Ext.rfl_ _ | assumption | refine Ext.drew ?_ | refine Ext.drewN ?_ _ | refine Ext.alloc ?_ _ | refine Ext.setCell ?_ (by first | (simp; done) | (simp; omega)) _ | refine Ext.trans ?_ (by assumption)))))).1, (HS.out _ (XW.out.trans (by with_reducible (repeat (first | exact Ext.rfl_ _ | assumption | refine Ext.drew ?_ | refine Ext.drewN ?_ _ | refine Ext.alloc ?_ _ | refine Ext.setCell ?_ (by first | (simp; done) | (simp; omega)) _ | refine Ext.trans ?_ (by assumption)))))).2.1⟩) (fun hHeld => ?_)
                  clear hK K
                  (try simp only [Act.put, List.getElem_toArray, List.getElem_cons_zero, List.getElem_cons_succ, List.setIfInBounds_toArray, List.set_cons_zero, List.set_cons_succ])
                  refine wpAnyH_take (i := 12) (oi := ({ dst := some 83, op := Go.Op.move (Go.Operand.tmp 95), type := 30, pos := "law.go:152", after := #[{ on := 11, ground := Go.Ground.data }], guard := none } : Go.Oper)) (v := ?v17) rfl (by kernel_rfl) (by kernel_rfl) (by kernel_rfl) (fun _ _ _ h => h) (Or.inl ⟨by rfl, ?hy17⟩) (by assumption) ?rest17
                  case hy17 => (intro w hSw; (try dsimp only at hSw); go_simp; (try with_reducible rfl))
                  (try simp only [Act.put, List.getElem_toArray, List.getElem_cons_zero, List.getElem_cons_succ, List.setIfInBounds_toArray, List.set_cons_zero, List.set_cons_succ])
                  refine wpAnyH_take (i := 13) (oi := ({ dst := some 96, op := Go.Op.extract (Go.Operand.tmp 83) 0, type := 28, pos := "law.go:152", after := #[{ on := 12, ground := Go.Ground.data }], guard := none } : Go.Oper)) (v := ?v18) rfl (by kernel_rfl) (by kernel_rfl) (by kernel_rfl) (fun _ _ _ h => h) (Or.inl ⟨by rfl, ?hy18⟩) (by assumption) ?rest18
                  case hy18 => (intro w hSw; (try dsimp only at hSw); go_simp; (try with_reducible rfl))
                  (try simp only [Act.put, List.getElem_toArray, List.getElem_cons_zero, List.getElem_cons_succ, List.setIfInBounds_toArray, List.set_cons_zero, List.set_cons_succ])
                  refine wpAnyH_take (i := 14) (oi := ({ dst := some 97, op := Go.Op.extract (Go.Operand.tmp 83) 1, type := 29, pos := "law.go:152", after := #[{ on := 12, ground := Go.Ground.data }, { on := 16, ground := Go.Ground.gcOnly Go.Departure.lateStores }], guard := none } : Go.Oper)) (v := ?v19) rfl (by kernel_rfl) (by kernel_rfl) (by kernel_rfl) (fun _ _ _ h => h) (Or.inl ⟨by rfl, ?hy19⟩) (by assumption) ?rest19
                  case hy19 => (intro w hSw; (try dsimp only at hSw); go_simp; (try with_reducible rfl))
                  (try simp only [Act.put, List.getElem_toArray, List.getElem_cons_zero, List.getElem_cons_succ, List.setIfInBounds_toArray, List.set_cons_zero, List.set_cons_succ])
                  refine wpAnyH_ready (rs := [16]) (by kernel_rfl) (by simp) ?_
                  refine AllReadyH.cons (o := ({ dst := none, op := Go.Op.store 28 (Go.Operand.tmp 14) (Go.Operand.tmp 96), type := 0, pos := "law.go:152", after := #[{ on := 15, ground := Go.Ground.data }, { on := 13, ground := Go.Ground.data }, { on := 11, ground := Go.Ground.chain }, { on := 0, ground := Go.Ground.phase }, { on := 1, ground := Go.Ground.phase }, { on := 2, ground := Go.Ground.phase }, { on := 3, ground := Go.Ground.phase }, { on := 4, ground := Go.Ground.phase }, { on := 5, ground := Go.Ground.phase }, { on := 6, ground := Go.Ground.phase }, { on := 7, ground := Go.Ground.phase }, { on := 8, ground := Go.Ground.phase }, { on := 9, ground := Go.Ground.phase }, { on := 10, ground := Go.Ground.phase }, { on := 11, ground := Go.Ground.phase }, { on := 12, ground := Go.Ground.phase }, { on := 13, ground := Go.Ground.phase }, { on := 14, ground := Go.Ground.textOnly Go.Departure.lateStores }, { on := 15, ground := Go.Ground.phase }], guard := none } : Go.Oper)) rfl (fun K hK => ?_) AllReadyH.nil
                  go_simp
                  refine hK.out _ _ (by (try dsimp only); exact ⟨(HS.out _ (XW.out.trans (by with_reducible (repeat (first | exact Ext.rfl_ _ | assumption | refine Ext.drew ?_ | refine Ext.drewN ?_ _ | refine Ext.alloc ?_ _ | refine Ext.setCell ?_ (by first | (simp; done) | (simp; omega)) _ | refine Ext.trans ?_ (by assumption)))))).1, (HS.out _ (XW.out.trans (by with_reducible (repeat (first | exact Ext.rfl_ _ | assumption | refine Ext.drew ?_ | refine Ext.drewN ?_ _ | refine Ext.alloc ?_ _ | refine Ext.setCell ?_ (by first | (simp; done) | (simp; omega)) _ | refine Ext.trans ?_ (by assumption)))))).2.1⟩) (fun hHeld => ?_)
                  clear hK K
                  (try simp only [Act.put, List.getElem_toArray, List.getElem_cons_zero, List.getElem_cons_succ, List.setIfInBounds_toArray, List.set_cons_zero, List.set_cons_succ])
                  refine wpAnyH_take (i := 17) (oi := ({ dst := some 15, op := Go.Op.assign (Go.Operand.tmp 97), type := 29, pos := "law.go:152", after := #[{ on := 14, ground := Go.Ground.data }, { on := 16, ground := Go.Ground.chain }, { on := 0, ground := Go.Ground.phase }, { on := 1, ground := Go.Ground.phase }, { on := 2, ground := Go.Ground.phase }, { on := 3, ground := Go.Ground.phase }, { on := 4, ground := Go.Ground.phase }, { on := 5, ground := Go.Ground.phase }, { on := 6, ground := Go.Ground.phase }, { on := 7, ground := Go.Ground.phase }, { on := 8, ground := Go.Ground.phase }, { on := 9, ground := Go.Ground.phase }, { on := 10, ground := Go.Ground.phase }, { on := 11, ground := Go.Ground.phase }, { on := 12, ground := Go.Ground.phase }, { on := 13, ground := Go.Ground.phase }, { on := 14, ground := Go.Ground.phase }, { on := 15, ground := Go.Ground.phase }, { on := 16, ground := Go.Ground.phase }], guard := none } : Go.Oper)) (v := ?v20) rfl (by kernel_rfl) (by kernel_rfl) (by kernel_rfl) (fun _ _ _ h => h) (Or.inl ⟨by rfl, ?hy20⟩) (by assumption) ?rest20
                  case hy20 => (intro w hSw; (try dsimp only at hSw); go_simp; (try with_reducible rfl))
                  (try simp only [Act.put, List.getElem_toArray, List.getElem_cons_zero, List.getElem_cons_succ, List.setIfInBounds_toArray, List.set_cons_zero, List.set_cons_succ])
                  refine wpAnyH_done (by kernel_rfl) ?_ _
                all_goals
                  go_wp2
                  go_meet
                  refine ⟨_, rfl, rfl, A7, n7, c7, B7, m7, d7, ?_, ?_, (by with_reducible (repeat (first | exact Ext.rfl_ _ | assumption | refine Ext.drew ?_ | refine Ext.drewN ?_ _ | refine Ext.alloc ?_ _ | refine Ext.setCell ?_ (by first | (simp; done) | (simp; omega)) _ | refine Ext.trans ?_ (by assumption))))⟩
                · first | exact four_put (hw7.blk (blk1 wr _)) _ _ _ _ | exact blk1 w7 _
                · first | exact (rdE_set4 hv7 (hw7.blk (blk1 wr _))).ext (by with_reducible (repeat (first | exact Ext.rfl_ _ | assumption | refine Ext.drew ?_ | refine Ext.drewN ?_ _ | refine Ext.alloc ?_ _ | refine Ext.trans ?_ (by assumption)))) | exact hv7.ext (by with_reducible (repeat (first | exact Ext.rfl_ _ | assumption | refine Ext.drew ?_ | refine Ext.drewN ?_ _ | refine Ext.alloc ?_ _ | refine Ext.trans ?_ (by assumption))))
                · first | exact four_put (hw7.blk (blk1 wr _)) _ _ _ _ | exact blk1 w7 _
                · first | exact (rdE_set4 hv7 (hw7.blk (blk1 wr _))).ext (by with_reducible (repeat (first | exact Ext.rfl_ _ | assumption | refine Ext.drew ?_ | refine Ext.drewN ?_ _ | refine Ext.alloc ?_ _ | refine Ext.trans ?_ (by assumption)))) | exact hv7.ext (by with_reducible (repeat (first | exact Ext.rfl_ _ | assumption | refine Ext.drew ?_ | refine Ext.drewN ?_ _ | refine Ext.alloc ?_ _ | refine Ext.trans ?_ (by assumption))))
              case rest =>
                obtain ⟨g, rfl, rfl, A7, n7, c7, B7, m7, d7, hg7, hv7, hw7⟩ := hcut
                have HG7 := Lib.hid hg7
                have HV7 := Lib.hid hv7
                have X7 := Lib.hid hw7
                clear hg7 hv7 hw7
                go_wp2
                refine wp_region_held_drew (S := (fun W => (W.cell? ⟨b, o + k * 4, none⟩ = some (.slice A1 n1 c1') ∧ W.cell? ⟨b, o + k * 4 + 1, none⟩ = some (.int .i64 x1.seq) ∧ W.cell? ⟨b, o + k * 4 + 2, none⟩ = some (.int .i64 x1.kind) ∧ W.cell? ⟨b, o + k * 4 + 3, none⟩ = some (.slice A1' n1' c1'')) ∧ W.cell? ⟨g, 0, none⟩ = some (.slice A7 n7 c7) ∧ W.cell? ⟨g, 1, none⟩ = some (.int .i64 x1.seq) ∧ W.cell? ⟨g, 2, none⟩ = some (.int .i64 x1.kind) ∧ W.cell? ⟨g, 3, none⟩ = some (.slice B7 m7 d7))) (by kernel_rfl) (by (try dsimp only); exact ⟨HS.out _ (XW.out.trans (X7.out.trans (by with_reducible (repeat (first | exact Ext.rfl_ _ | assumption | refine Ext.drew ?_ | refine Ext.drewN ?_ _ | refine Ext.alloc ?_ _ | refine Ext.trans ?_ (by assumption)))))), (box4 HG7.out (by with_reducible (repeat (first | exact Ext.rfl_ _ | assumption | refine Ext.drew ?_ | refine Ext.drewN ?_ _ | refine Ext.alloc ?_ _ | refine Ext.trans ?_ (by assumption))))).1, (box4 HG7.out (by with_reducible (repeat (first | exact Ext.rfl_ _ | assumption | refine Ext.drew ?_ | refine Ext.drewN ?_ _ | refine Ext.alloc ?_ _ | refine Ext.trans ?_ (by assumption))))).2.1, (box4 HG7.out (by with_reducible (repeat (first | exact Ext.rfl_ _ | assumption | refine Ext.drew ?_ | refine Ext.drewN ?_ _ | refine Ext.alloc ?_ _ | refine Ext.trans ?_ (by assumption))))).2.2.1, (box4 HG7.out (by with_reducible (repeat (first | exact Ext.rfl_ _ | assumption | refine Ext.drew ?_ | refine Ext.drewN ?_ _ | refine Ext.alloc ?_ _ | refine Ext.trans ?_ (by assumption))))).2.2.2.1⟩) (fun hHeld => ?_)
                refine wpAnyH_take (i := 0) (oi := ({ dst := some 98, op := Go.Op.move (Go.Operand.tmp 15), type := 29, pos := "law.go:153", after := #[], guard := none } : Go.Oper)) (v := ?v21) rfl (by kernel_rfl) (by kernel_rfl) (by kernel_rfl) (fun _ _ _ h => h) (Or.inl ⟨by rfl, ?hy21⟩) (by assumption) ?rest21
                case hy21 => (intro w hSw; (try dsimp only at hSw); go_simp; (try with_reducible rfl))
                (try simp only [Act.put, List.getElem_toArray, List.getElem_cons_zero, List.getElem_cons_succ, List.setIfInBounds_toArray, List.set_cons_zero, List.set_cons_succ])
                refine wpAnyH_ready (rs := [1]) (by kernel_rfl) (by simp) ?_
                refine AllReadyH.cons (o := ({ dst := some 99, op := Go.Op.call { callee := Go.Callee.value (Go.Operand.func 16), args := #[Go.Operand.tmp 98], argTypes := #[29] }, type := 3, pos := "law.go:153", after := #[{ on := 0, ground := Go.Ground.data }], guard := none } : Go.Oper)) rfl (fun K hK => ?_) AllReadyH.nil
                go_simp
                (first | (go_at_call 16; refine (num_any _ _).mono ?_; rintro e w8 ⟨rfl, rfl⟩) | (go_at_call 15; refine (rsame_self _ _ x1 _ (HV7.out.ext (by with_reducible (repeat (first | exact Ext.rfl_ _ | assumption | refine Ext.drew ?_ | refine Ext.drewN ?_ _ | refine Ext.alloc ?_ _ | refine Ext.trans ?_ (by assumption))))) (HR.out.ext (XW.out.trans (X7.out.trans (by with_reducible (repeat (first | exact Ext.rfl_ _ | assumption | refine Ext.drew ?_ | refine Ext.drewN ?_ _ | refine Ext.alloc ?_ _ | refine Ext.trans ?_ (by assumption)))))))).mono ?_; rintro e w8 ⟨rfl, hw8⟩) | (go_at_call 20; refine (bfrom_any _ _ _ _ _ _ _).mono ?_; rintro e w9 ⟨rfl, hw9⟩; have hfc := Lib.hid (from_cells w8 A4 A1 n4 c4 n1 c1'); rw [← hw9] at hfc; have hx9 : Ext w8 w9 := (by rw [hw9]; exact (by with_reducible (repeat (first | exact Ext.rfl_ _ | assumption | refine Ext.drew ?_ | refine Ext.drewN ?_ _ | refine Ext.alloc ?_ _ | refine Ext.trans ?_ (by assumption))))); clear hw9) | (go_at_call 18; refine (rfrom_any _ n c xs A1 n1 c1' x1.key _ (HL.out.ext (XW.out.trans (X7.out.trans (by with_reducible (repeat (first | exact Ext.rfl_ _ | assumption | refine Ext.drew ?_ | refine Ext.drewN ?_ _ | refine Ext.alloc ?_ _ | refine Ext.trans ?_ (by assumption))))))) hnc (HRK.out.ext (XW.out.trans (X7.out.trans (by with_reducible (repeat (first | exact Ext.rfl_ _ | assumption | refine Ext.drew ?_ | refine Ext.drewN ?_ _ | refine Ext.alloc ?_ _ | refine Ext.trans ?_ (by assumption))))))) hck.2).mono ?_; rintro e w10 ⟨⟨A10, n10, c10, rfl, l10, r10⟩, hw10⟩) | (go_at_call 19; refine (goes_self _ _ A4 n4 c4 xs A1 n1 c1' x1.key A10 n10 c10 0 wr _ HM.out (R46.out.ext XT.out) l4 (HRK.out.ext XW.out) (X7.out.trans (by with_reducible (repeat (first | exact Ext.rfl_ _ | assumption | refine Ext.drew ?_ | refine Ext.drewN ?_ _ | refine Ext.alloc ?_ _ | refine Ext.trans ?_ (by assumption))))) (hw10.keeps _ _ _ hfc.out.1) (hw10.keeps _ _ _ hfc.out.2) r10).mono ?_; rintro e w11 ⟨rfl, hw11⟩))
                (try (go_wp2_with fail))
                refine hK.out _ _ (by (try dsimp only); exact ⟨HS.out _ (XW.out.trans (X7.out.trans (by with_reducible (repeat (first | exact Ext.rfl_ _ | assumption | refine Ext.drew ?_ | refine Ext.drewN ?_ _ | refine Ext.alloc ?_ _ | refine Ext.trans ?_ (by assumption)))))), (box4 HG7.out (by with_reducible (repeat (first | exact Ext.rfl_ _ | assumption | refine Ext.drew ?_ | refine Ext.drewN ?_ _ | refine Ext.alloc ?_ _ | refine Ext.trans ?_ (by assumption))))).1, (box4 HG7.out (by with_reducible (repeat (first | exact Ext.rfl_ _ | assumption | refine Ext.drew ?_ | refine Ext.drewN ?_ _ | refine Ext.alloc ?_ _ | refine Ext.trans ?_ (by assumption))))).2.1, (box4 HG7.out (by with_reducible (repeat (first | exact Ext.rfl_ _ | assumption | refine Ext.drew ?_ | refine Ext.drewN ?_ _ | refine Ext.alloc ?_ _ | refine Ext.trans ?_ (by assumption))))).2.2.1, (box4 HG7.out (by with_reducible (repeat (first | exact Ext.rfl_ _ | assumption | refine Ext.drew ?_ | refine Ext.drewN ?_ _ | refine Ext.alloc ?_ _ | refine Ext.trans ?_ (by assumption))))).2.2.2.1⟩) (fun hHeld => ?_)
                clear hK K
                (try simp only [Act.put, List.getElem_toArray, List.getElem_cons_zero, List.getElem_cons_succ, List.setIfInBounds_toArray, List.set_cons_zero, List.set_cons_succ])
                refine wpAnyH_take (i := 2) (oi := ({ dst := some 100, op := Go.Op.binOp Go.BinOp.neq 3 (Go.Operand.tmp 99) (Go.Operand.const (Go.Value.int Go.IntKind.i64 0)) 3, type := 4, pos := "law.go:153", after := #[{ on := 1, ground := Go.Ground.data }], guard := none } : Go.Oper)) (v := ?v22) rfl (by kernel_rfl) (by kernel_rfl) (by kernel_rfl) (fun _ _ _ h => h) (Or.inl ⟨by rfl, ?hy22⟩) (by assumption) ?rest22
                case hy22 => (intro w hSw; (try dsimp only at hSw); go_simp; (try with_reducible rfl))
                (try simp only [Act.put, List.getElem_toArray, List.getElem_cons_zero, List.getElem_cons_succ, List.setIfInBounds_toArray, List.set_cons_zero, List.set_cons_succ])
                refine wpAnyH_take (i := 3) (oi := ({ dst := some 101, op := Go.Op.move (Go.Operand.tmp 100), type := 4, pos := "law.go:153", after := #[{ on := 2, ground := Go.Ground.data }, { on := 1, ground := Go.Ground.chain }], guard := none } : Go.Oper)) (v := ?v23) rfl (by kernel_rfl) (by kernel_rfl) (by kernel_rfl) (fun _ _ _ h => h) (Or.inl ⟨by rfl, ?hy23⟩) (by assumption) ?rest23
                case hy23 => (intro w hSw; (try dsimp only at hSw); go_simp; (try with_reducible rfl))
                (try simp only [Act.put, List.getElem_toArray, List.getElem_cons_zero, List.getElem_cons_succ, List.setIfInBounds_toArray, List.set_cons_zero, List.set_cons_succ])
                refine wpAnyH_take (i := 4) (oi := ({ dst := some 102, op := Go.Op.load 28 (Go.Operand.tmp 14), type := 28, pos := "law.go:153", after := #[{ on := 3, ground := Go.Ground.guard }], guard := some (3, false) } : Go.Oper)) (v := ?v24) rfl (by kernel_rfl) (by kernel_rfl) (by kernel_rfl) (fun _ _ _ h => h) (Or.inl ⟨by rfl, ?hy24⟩) (by assumption) ?rest24
                case hy24 => (intro w hSw; (try dsimp only at hSw); go_simp; (try with_reducible rfl))
                (try simp only [Act.put, List.getElem_toArray, List.getElem_cons_zero, List.getElem_cons_succ, List.setIfInBounds_toArray, List.set_cons_zero, List.set_cons_succ])
                refine wpAnyH_take (i := 5) (oi := ({ dst := some 103, op := Go.Op.move (Go.Operand.tmp 0), type := 37, pos := "law.go:153", after := #[{ on := 3, ground := Go.Ground.guard }], guard := some (3, false) } : Go.Oper)) (v := ?v25) rfl (by kernel_rfl) (by kernel_rfl) (by kernel_rfl) (fun _ _ _ h => h) (Or.inl ⟨by rfl, ?hy25⟩) (by assumption) ?rest25
                case hy25 => (intro w hSw; (try dsimp only at hSw); go_simp; (try with_reducible rfl))
                (try simp only [Act.put, List.getElem_toArray, List.getElem_cons_zero, List.getElem_cons_succ, List.setIfInBounds_toArray, List.set_cons_zero, List.set_cons_succ])
                refine wpAnyH_take (i := 6) (oi := ({ dst := some 104, op := Go.Op.move (Go.Operand.tmp 13), type := 3, pos := "law.go:153", after := #[{ on := 3, ground := Go.Ground.guard }], guard := some (3, false) } : Go.Oper)) (v := ?v26) rfl (by kernel_rfl) (by kernel_rfl) (by kernel_rfl) (fun _ _ _ h => h) (Or.inl ⟨by rfl, ?hy26⟩) (by assumption) ?rest26
                case hy26 => (intro w hSw; (try dsimp only at hSw); go_simp; (try with_reducible rfl))
                (try simp only [Act.put, List.getElem_toArray, List.getElem_cons_zero, List.getElem_cons_succ, List.setIfInBounds_toArray, List.set_cons_zero, List.set_cons_succ])
                refine wpAnyH_take (i := 7) (oi := ({ dst := some 105, op := Go.Op.indexAddr 37 (Go.Operand.tmp 103) (Go.Operand.tmp 104), type := 0, pos := "law.go:153", after := #[{ on := 5, ground := Go.Ground.data }, { on := 6, ground := Go.Ground.data }, { on := 3, ground := Go.Ground.guard }], guard := some (3, false) } : Go.Oper)) (v := ?v27) rfl (by kernel_rfl) (by kernel_rfl) (by kernel_rfl) (fun _ _ _ h => h) (Or.inl ⟨by rfl, ?hy27⟩) (by assumption) ?rest27
                case hy27 => (intro w hSw; (try dsimp only at hSw); go_simp; (try with_reducible rfl))
                (try simp only [Act.put, List.getElem_toArray, List.getElem_cons_zero, List.getElem_cons_succ, List.setIfInBounds_toArray, List.set_cons_zero, List.set_cons_succ])
                refine wpAnyH_take (i := 8) (oi := ({ dst := some 106, op := Go.Op.load 28 (Go.Operand.tmp 105), type := 28, pos := "law.go:153", after := #[{ on := 7, ground := Go.Ground.data }, { on := 3, ground := Go.Ground.guard }], guard := some (3, false) } : Go.Oper)) (v := ?v28) rfl (by kernel_rfl) (by kernel_rfl) (by kernel_rfl) (fun _ _ _ h => h) (Or.inl ⟨by rfl, ?hy28⟩) (by assumption) ?rest28
                case hy28 => (intro w hSw; (try dsimp only at hSw); go_simp; (try with_reducible rfl))
                (try simp only [Act.put, List.getElem_toArray, List.getElem_cons_zero, List.getElem_cons_succ, List.setIfInBounds_toArray, List.set_cons_zero, List.set_cons_succ])
                refine wpAnyH_ready (rs := [9]) (by kernel_rfl) (by simp) ?_
                refine AllReadyH.cons (o := ({ dst := some 107, op := Go.Op.call { callee := Go.Callee.value (Go.Operand.func 15), args := #[Go.Operand.tmp 102, Go.Operand.tmp 106], argTypes := #[28, 28] }, type := 4, pos := "law.go:153", after := #[{ on := 4, ground := Go.Ground.data }, { on := 8, ground := Go.Ground.data }, { on := 3, ground := Go.Ground.chain }, { on := 3, ground := Go.Ground.guard }], guard := some (3, false) } : Go.Oper)) rfl (fun K hK => ?_) AllReadyH.nil
                go_simp
                (first | (go_at_call 16; refine (num_any _ _).mono ?_; rintro e w8 ⟨rfl, rfl⟩) | (go_at_call 15; refine (rsame_self _ _ x1 _ (HV7.out.ext (by with_reducible (repeat (first | exact Ext.rfl_ _ | assumption | refine Ext.drew ?_ | refine Ext.drewN ?_ _ | refine Ext.alloc ?_ _ | refine Ext.trans ?_ (by assumption))))) (HR.out.ext (XW.out.trans (X7.out.trans (by with_reducible (repeat (first | exact Ext.rfl_ _ | assumption | refine Ext.drew ?_ | refine Ext.drewN ?_ _ | refine Ext.alloc ?_ _ | refine Ext.trans ?_ (by assumption)))))))).mono ?_; rintro e w8 ⟨rfl, hw8⟩) | (go_at_call 20; refine (bfrom_any _ _ _ _ _ _ _).mono ?_; rintro e w9 ⟨rfl, hw9⟩; have hfc := Lib.hid (from_cells w8 A4 A1 n4 c4 n1 c1'); rw [← hw9] at hfc; have hx9 : Ext w8 w9 := (by rw [hw9]; exact (by with_reducible (repeat (first | exact Ext.rfl_ _ | assumption | refine Ext.drew ?_ | refine Ext.drewN ?_ _ | refine Ext.alloc ?_ _ | refine Ext.trans ?_ (by assumption))))); clear hw9) | (go_at_call 18; refine (rfrom_any _ n c xs A1 n1 c1' x1.key _ (HL.out.ext (XW.out.trans (X7.out.trans (by with_reducible (repeat (first | exact Ext.rfl_ _ | assumption | refine Ext.drew ?_ | refine Ext.drewN ?_ _ | refine Ext.alloc ?_ _ | refine Ext.trans ?_ (by assumption))))))) hnc (HRK.out.ext (XW.out.trans (X7.out.trans (by with_reducible (repeat (first | exact Ext.rfl_ _ | assumption | refine Ext.drew ?_ | refine Ext.drewN ?_ _ | refine Ext.alloc ?_ _ | refine Ext.trans ?_ (by assumption))))))) hck.2).mono ?_; rintro e w10 ⟨⟨A10, n10, c10, rfl, l10, r10⟩, hw10⟩) | (go_at_call 19; refine (goes_self _ _ A4 n4 c4 xs A1 n1 c1' x1.key A10 n10 c10 0 wr _ HM.out (R46.out.ext XT.out) l4 (HRK.out.ext XW.out) (X7.out.trans (by with_reducible (repeat (first | exact Ext.rfl_ _ | assumption | refine Ext.drew ?_ | refine Ext.drewN ?_ _ | refine Ext.alloc ?_ _ | refine Ext.trans ?_ (by assumption))))) (hw10.keeps _ _ _ hfc.out.1) (hw10.keeps _ _ _ hfc.out.2) r10).mono ?_; rintro e w11 ⟨rfl, hw11⟩))
                (try (go_wp2_with fail))
                refine hK.out _ _ (by (try dsimp only); exact ⟨HS.out _ (XW.out.trans (X7.out.trans (by with_reducible (repeat (first | exact Ext.rfl_ _ | assumption | refine Ext.drew ?_ | refine Ext.drewN ?_ _ | refine Ext.alloc ?_ _ | refine Ext.trans ?_ (by assumption)))))), (box4 HG7.out (by with_reducible (repeat (first | exact Ext.rfl_ _ | assumption | refine Ext.drew ?_ | refine Ext.drewN ?_ _ | refine Ext.alloc ?_ _ | refine Ext.trans ?_ (by assumption))))).1, (box4 HG7.out (by with_reducible (repeat (first | exact Ext.rfl_ _ | assumption | refine Ext.drew ?_ | refine Ext.drewN ?_ _ | refine Ext.alloc ?_ _ | refine Ext.trans ?_ (by assumption))))).2.1, (box4 HG7.out (by with_reducible (repeat (first | exact Ext.rfl_ _ | assumption | refine Ext.drew ?_ | refine Ext.drewN ?_ _ | refine Ext.alloc ?_ _ | refine Ext.trans ?_ (by assumption))))).2.2.1, (box4 HG7.out (by with_reducible (repeat (first | exact Ext.rfl_ _ | assumption | refine Ext.drew ?_ | refine Ext.drewN ?_ _ | refine Ext.alloc ?_ _ | refine Ext.trans ?_ (by assumption))))).2.2.2.1⟩) (fun hHeld => ?_)
                clear hK K
                (try simp only [Act.put, List.getElem_toArray, List.getElem_cons_zero, List.getElem_cons_succ, List.setIfInBounds_toArray, List.set_cons_zero, List.set_cons_succ])
                refine wpAnyH_take (i := 10) (oi := ({ dst := some 108, op := Go.Op.unOp Go.UnOp.not 4 (Go.Operand.tmp 107), type := 4, pos := "law.go:153", after := #[{ on := 9, ground := Go.Ground.data }, { on := 3, ground := Go.Ground.guard }], guard := some (3, false) } : Go.Oper)) (v := ?v29) rfl (by kernel_rfl) (by kernel_rfl) (by kernel_rfl) (fun _ _ _ h => h) (Or.inl ⟨by rfl, ?hy29⟩) (by assumption) ?rest29
                case hy29 => (intro w hSw; (try dsimp only at hSw); go_simp; (try with_reducible rfl))
                (try simp only [Act.put, List.getElem_toArray, List.getElem_cons_zero, List.getElem_cons_succ, List.setIfInBounds_toArray, List.set_cons_zero, List.set_cons_succ])
                refine wpAnyH_take (i := 11) (oi := ({ dst := some 109, op := Go.Op.pick (Go.Operand.tmp 101) (Go.Operand.const (Go.Value.bool true)) (Go.Operand.tmp 108), type := 4, pos := "law.go:153", after := #[{ on := 3, ground := Go.Ground.data }, { on := 10, ground := Go.Ground.data }], guard := none } : Go.Oper)) (v := ?v30) rfl (by kernel_rfl) (by kernel_rfl) (by kernel_rfl) (fun _ _ _ h => h) (Or.inl ⟨by rfl, ?hy30⟩) (by assumption) ?rest30
                case hy30 => (intro w hSw; (try dsimp only at hSw); go_simp; (try with_reducible rfl))
                (try simp only [Act.put, List.getElem_toArray, List.getElem_cons_zero, List.getElem_cons_succ, List.setIfInBounds_toArray, List.set_cons_zero, List.set_cons_succ])
                refine wpAnyH_take (i := 12) (oi := ({ dst := some 110, op := Go.Op.move (Go.Operand.tmp 109), type := 4, pos := "law.go:153", after := #[{ on := 11, ground := Go.Ground.data }, { on := 9, ground := Go.Ground.chain }], guard := none } : Go.Oper)) (v := ?v31) rfl (by kernel_rfl) (by kernel_rfl) (by kernel_rfl) (fun _ _ _ h => h) (Or.inl ⟨by rfl, ?hy31⟩) (by assumption) ?rest31
                case hy31 => (intro w hSw; (try dsimp only at hSw); go_simp; (try with_reducible rfl))
                (try simp only [Act.put, List.getElem_toArray, List.getElem_cons_zero, List.getElem_cons_succ, List.setIfInBounds_toArray, List.set_cons_zero, List.set_cons_succ])
                refine wpAnyH_take (i := 13) (oi := ({ dst := some 111, op := Go.Op.move (Go.Operand.tmp 9), type := 22, pos := "law.go:153", after := #[{ on := 12, ground := Go.Ground.guard }], guard := some (12, false) } : Go.Oper)) (v := ?v32) rfl (by kernel_rfl) (by kernel_rfl) (by kernel_rfl) (fun _ _ _ h => h) (Or.inl ⟨by rfl, ?hy32⟩) (by assumption) ?rest32
                case hy32 => (intro w hSw; (try dsimp only at hSw); go_simp; (try with_reducible rfl))
                (try simp only [Act.put, List.getElem_toArray, List.getElem_cons_zero, List.getElem_cons_succ, List.setIfInBounds_toArray, List.set_cons_zero, List.set_cons_succ])
                refine wpAnyH_take (i := 14) (oi := ({ dst := some 112, op := Go.Op.move (Go.Operand.tmp 0), type := 37, pos := "law.go:153", after := #[{ on := 12, ground := Go.Ground.guard }], guard := some (12, false) } : Go.Oper)) (v := ?v33) rfl (by kernel_rfl) (by kernel_rfl) (by kernel_rfl) (fun _ _ _ h => h) (Or.inl ⟨by rfl, ?hy33⟩) (by assumption) ?rest33
                case hy33 => (intro w hSw; (try dsimp only at hSw); go_simp; (try with_reducible rfl))
                (try simp only [Act.put, List.getElem_toArray, List.getElem_cons_zero, List.getElem_cons_succ, List.setIfInBounds_toArray, List.set_cons_zero, List.set_cons_succ])
                refine wpAnyH_take (i := 15) (oi := ({ dst := some 113, op := Go.Op.move (Go.Operand.tmp 13), type := 3, pos := "law.go:153", after := #[{ on := 12, ground := Go.Ground.guard }], guard := some (12, false) } : Go.Oper)) (v := ?v34) rfl (by kernel_rfl) (by kernel_rfl) (by kernel_rfl) (fun _ _ _ h => h) (Or.inl ⟨by rfl, ?hy34⟩) (by assumption) ?rest34
                case hy34 => (intro w hSw; (try dsimp only at hSw); go_simp; (try with_reducible rfl))
                (try simp only [Act.put, List.getElem_toArray, List.getElem_cons_zero, List.getElem_cons_succ, List.setIfInBounds_toArray, List.set_cons_zero, List.set_cons_succ])
                refine wpAnyH_take (i := 16) (oi := ({ dst := some 114, op := Go.Op.indexAddr 37 (Go.Operand.tmp 112) (Go.Operand.tmp 113), type := 0, pos := "law.go:153", after := #[{ on := 14, ground := Go.Ground.data }, { on := 15, ground := Go.Ground.data }, { on := 12, ground := Go.Ground.guard }], guard := some (12, false) } : Go.Oper)) (v := ?v35) rfl (by kernel_rfl) (by kernel_rfl) (by kernel_rfl) (fun _ _ _ h => h) (Or.inl ⟨by rfl, ?hy35⟩) (by assumption) ?rest35
                case hy35 => (intro w hSw; (try dsimp only at hSw); go_simp; (try with_reducible rfl))
                (try simp only [Act.put, List.getElem_toArray, List.getElem_cons_zero, List.getElem_cons_succ, List.setIfInBounds_toArray, List.set_cons_zero, List.set_cons_succ])
                refine wpAnyH_take (i := 17) (oi := ({ dst := some 115, op := Go.Op.fieldAddr 28 (Go.Operand.tmp 114) 0, type := 0, pos := "law.go:153", after := #[{ on := 16, ground := Go.Ground.data }, { on := 12, ground := Go.Ground.guard }], guard := some (12, false) } : Go.Oper)) (v := ?v36) rfl (by kernel_rfl) (by kernel_rfl) (by kernel_rfl) (fun _ _ _ h => h) (Or.inl ⟨by rfl, ?hy36⟩) (by assumption) ?rest36
                case hy36 => (intro w hSw; (try dsimp only at hSw); go_simp; (try with_reducible rfl))
                (try simp only [Act.put, List.getElem_toArray, List.getElem_cons_zero, List.getElem_cons_succ, List.setIfInBounds_toArray, List.set_cons_zero, List.set_cons_succ])
                refine wpAnyH_take (i := 18) (oi := ({ dst := some 116, op := Go.Op.load 22 (Go.Operand.tmp 115), type := 22, pos := "law.go:153", after := #[{ on := 17, ground := Go.Ground.data }, { on := 12, ground := Go.Ground.guard }], guard := some (12, false) } : Go.Oper)) (v := ?v37) rfl (by kernel_rfl) (by kernel_rfl) (by kernel_rfl) (fun _ _ _ h => h) (Or.inl ⟨by rfl, ?hy37⟩) (by assumption) ?rest37
                case hy37 => (intro w hSw; (try dsimp only at hSw); go_simp; (try with_reducible rfl))
                (try simp only [Act.put, List.getElem_toArray, List.getElem_cons_zero, List.getElem_cons_succ, List.setIfInBounds_toArray, List.set_cons_zero, List.set_cons_succ])
                refine wpAnyH_take (i := 20) (oi := ({ dst := some 118, op := Go.Op.move (Go.Operand.tmp 0), type := 37, pos := "law.go:153", after := #[{ on := 12, ground := Go.Ground.guard }], guard := some (12, false) } : Go.Oper)) (v := ?v38) rfl (by kernel_rfl) (by kernel_rfl) (by kernel_rfl) (fun _ _ _ h => h) (Or.inl ⟨by rfl, ?hy38⟩) (by assumption) ?rest38
                case hy38 => (intro w hSw; (try dsimp only at hSw); go_simp; (try with_reducible rfl))
                (try simp only [Act.put, List.getElem_toArray, List.getElem_cons_zero, List.getElem_cons_succ, List.setIfInBounds_toArray, List.set_cons_zero, List.set_cons_succ])
                refine wpAnyH_take (i := 21) (oi := ({ dst := some 119, op := Go.Op.move (Go.Operand.tmp 0), type := 37, pos := "law.go:153", after := #[{ on := 12, ground := Go.Ground.guard }], guard := some (12, false) } : Go.Oper)) (v := ?v39) rfl (by kernel_rfl) (by kernel_rfl) (by kernel_rfl) (fun _ _ _ h => h) (Or.inl ⟨by rfl, ?hy39⟩) (by assumption) ?rest39
                case hy39 => (intro w hSw; (try dsimp only at hSw); go_simp; (try with_reducible rfl))
                (try simp only [Act.put, List.getElem_toArray, List.getElem_cons_zero, List.getElem_cons_succ, List.setIfInBounds_toArray, List.set_cons_zero, List.set_cons_succ])
                refine wpAnyH_take (i := 22) (oi := ({ dst := some 120, op := Go.Op.move (Go.Operand.tmp 13), type := 3, pos := "law.go:153", after := #[{ on := 12, ground := Go.Ground.guard }], guard := some (12, false) } : Go.Oper)) (v := ?v40) rfl (by kernel_rfl) (by kernel_rfl) (by kernel_rfl) (fun _ _ _ h => h) (Or.inl ⟨by rfl, ?hy40⟩) (by assumption) ?rest40
                case hy40 => (intro w hSw; (try dsimp only at hSw); go_simp; (try with_reducible rfl))
                (try simp only [Act.put, List.getElem_toArray, List.getElem_cons_zero, List.getElem_cons_succ, List.setIfInBounds_toArray, List.set_cons_zero, List.set_cons_succ])
                refine wpAnyH_take (i := 23) (oi := ({ dst := some 121, op := Go.Op.indexAddr 37 (Go.Operand.tmp 119) (Go.Operand.tmp 120), type := 0, pos := "law.go:153", after := #[{ on := 21, ground := Go.Ground.data }, { on := 22, ground := Go.Ground.data }, { on := 12, ground := Go.Ground.guard }], guard := some (12, false) } : Go.Oper)) (v := ?v41) rfl (by kernel_rfl) (by kernel_rfl) (by kernel_rfl) (fun _ _ _ h => h) (Or.inl ⟨by rfl, ?hy41⟩) (by assumption) ?rest41
                case hy41 => (intro w hSw; (try dsimp only at hSw); go_simp; (try with_reducible rfl))
                (try simp only [Act.put, List.getElem_toArray, List.getElem_cons_zero, List.getElem_cons_succ, List.setIfInBounds_toArray, List.set_cons_zero, List.set_cons_succ])
                refine wpAnyH_take (i := 24) (oi := ({ dst := some 122, op := Go.Op.fieldAddr 28 (Go.Operand.tmp 121) 0, type := 0, pos := "law.go:153", after := #[{ on := 23, ground := Go.Ground.data }, { on := 12, ground := Go.Ground.guard }], guard := some (12, false) } : Go.Oper)) (v := ?v42) rfl (by kernel_rfl) (by kernel_rfl) (by kernel_rfl) (fun _ _ _ h => h) (Or.inl ⟨by rfl, ?hy42⟩) (by assumption) ?rest42
                case hy42 => (intro w hSw; (try dsimp only at hSw); go_simp; (try with_reducible rfl))
                (try simp only [Act.put, List.getElem_toArray, List.getElem_cons_zero, List.getElem_cons_succ, List.setIfInBounds_toArray, List.set_cons_zero, List.set_cons_succ])
                refine wpAnyH_take (i := 25) (oi := ({ dst := some 123, op := Go.Op.load 22 (Go.Operand.tmp 122), type := 22, pos := "law.go:153", after := #[{ on := 24, ground := Go.Ground.data }, { on := 12, ground := Go.Ground.guard }], guard := some (12, false) } : Go.Oper)) (v := ?v43) rfl (by kernel_rfl) (by kernel_rfl) (by kernel_rfl) (fun _ _ _ h => h) (Or.inl ⟨by rfl, ?hy43⟩) (by assumption) ?rest43
                case hy43 => (intro w hSw; (try dsimp only at hSw); go_simp; (try with_reducible rfl))
                (try simp only [Act.put, List.getElem_toArray, List.getElem_cons_zero, List.getElem_cons_succ, List.setIfInBounds_toArray, List.set_cons_zero, List.set_cons_succ])
                refine wpAnyH_ready (rs := [19]) (by kernel_rfl) (by simp) ?_
                refine AllReadyH.cons (o := ({ dst := some 117, op := Go.Op.call { callee := Go.Callee.value (Go.Operand.func 20), args := #[Go.Operand.tmp 111, Go.Operand.tmp 116], argTypes := #[22, 22] }, type := 44, pos := "law.go:153", after := #[{ on := 13, ground := Go.Ground.data }, { on := 18, ground := Go.Ground.data }, { on := 12, ground := Go.Ground.chain }, { on := 12, ground := Go.Ground.guard }], guard := some (12, false) } : Go.Oper)) rfl (fun K hK => ?_) AllReadyH.nil
                go_simp
                (first | (go_at_call 16; refine (num_any _ _).mono ?_; rintro e w8 ⟨rfl, rfl⟩) | (go_at_call 15; refine (rsame_self _ _ x1 _ (HV7.out.ext (by with_reducible (repeat (first | exact Ext.rfl_ _ | assumption | refine Ext.drew ?_ | refine Ext.drewN ?_ _ | refine Ext.alloc ?_ _ | refine Ext.trans ?_ (by assumption))))) (HR.out.ext (XW.out.trans (X7.out.trans (by with_reducible (repeat (first | exact Ext.rfl_ _ | assumption | refine Ext.drew ?_ | refine Ext.drewN ?_ _ | refine Ext.alloc ?_ _ | refine Ext.trans ?_ (by assumption)))))))).mono ?_; rintro e w8 ⟨rfl, hw8⟩) | (go_at_call 20; refine (bfrom_any _ _ _ _ _ _ _).mono ?_; rintro e w9 ⟨rfl, hw9⟩; have hfc := Lib.hid (from_cells w8 A4 A1 n4 c4 n1 c1'); rw [← hw9] at hfc; have hx9 : Ext w8 w9 := (by rw [hw9]; exact (by with_reducible (repeat (first | exact Ext.rfl_ _ | assumption | refine Ext.drew ?_ | refine Ext.drewN ?_ _ | refine Ext.alloc ?_ _ | refine Ext.trans ?_ (by assumption))))); clear hw9) | (go_at_call 18; refine (rfrom_any _ n c xs A1 n1 c1' x1.key _ (HL.out.ext (XW.out.trans (X7.out.trans (by with_reducible (repeat (first | exact Ext.rfl_ _ | assumption | refine Ext.drew ?_ | refine Ext.drewN ?_ _ | refine Ext.alloc ?_ _ | refine Ext.trans ?_ (by assumption))))))) hnc (HRK.out.ext (XW.out.trans (X7.out.trans (by with_reducible (repeat (first | exact Ext.rfl_ _ | assumption | refine Ext.drew ?_ | refine Ext.drewN ?_ _ | refine Ext.alloc ?_ _ | refine Ext.trans ?_ (by assumption))))))) hck.2).mono ?_; rintro e w10 ⟨⟨A10, n10, c10, rfl, l10, r10⟩, hw10⟩) | (go_at_call 19; refine (goes_self _ _ A4 n4 c4 xs A1 n1 c1' x1.key A10 n10 c10 0 wr _ HM.out (R46.out.ext XT.out) l4 (HRK.out.ext XW.out) (X7.out.trans (by with_reducible (repeat (first | exact Ext.rfl_ _ | assumption | refine Ext.drew ?_ | refine Ext.drewN ?_ _ | refine Ext.alloc ?_ _ | refine Ext.trans ?_ (by assumption))))) (hw10.keeps _ _ _ hfc.out.1) (hw10.keeps _ _ _ hfc.out.2) r10).mono ?_; rintro e w11 ⟨rfl, hw11⟩))
                (try (go_wp2_with fail))
                refine hK.out _ _ (by (try dsimp only); exact ⟨HS.out _ (XW.out.trans (X7.out.trans (by with_reducible (repeat (first | exact Ext.rfl_ _ | assumption | refine Ext.drew ?_ | refine Ext.drewN ?_ _ | refine Ext.alloc ?_ _ | refine Ext.trans ?_ (by assumption)))))), (box4 HG7.out (by with_reducible (repeat (first | exact Ext.rfl_ _ | assumption | refine Ext.drew ?_ | refine Ext.drewN ?_ _ | refine Ext.alloc ?_ _ | refine Ext.trans ?_ (by assumption))))).1, (box4 HG7.out (by with_reducible (repeat (first | exact Ext.rfl_ _ | assumption | refine Ext.drew ?_ | refine Ext.drewN ?_ _ | refine Ext.alloc ?_ _ | refine Ext.trans ?_ (by assumption))))).2.1, (box4 HG7.out (by with_reducible (repeat (first | exact Ext.rfl_ _ | assumption | refine Ext.drew ?_ | refine Ext.drewN ?_ _ | refine Ext.alloc ?_ _ | refine Ext.trans ?_ (by assumption))))).2.2.1, (box4 HG7.out (by with_reducible (repeat (first | exact Ext.rfl_ _ | assumption | refine Ext.drew ?_ | refine Ext.drewN ?_ _ | refine Ext.alloc ?_ _ | refine Ext.trans ?_ (by assumption))))).2.2.2.1⟩) (fun hHeld => ?_)
                clear hK K
                (try simp only [Act.put, List.getElem_toArray, List.getElem_cons_zero, List.getElem_cons_succ, List.setIfInBounds_toArray, List.set_cons_zero, List.set_cons_succ])
                refine wpAnyH_ready (rs := [26]) (by kernel_rfl) (by simp) ?_
                refine AllReadyH.cons (o := ({ dst := some 124, op := Go.Op.call { callee := Go.Callee.value (Go.Operand.func 18), args := #[Go.Operand.tmp 118, Go.Operand.tmp 123], argTypes := #[37, 22] }, type := 37, pos := "law.go:153", after := #[{ on := 20, ground := Go.Ground.data }, { on := 25, ground := Go.Ground.data }, { on := 19, ground := Go.Ground.chain }, { on := 12, ground := Go.Ground.guard }], guard := some (12, false) } : Go.Oper)) rfl (fun K hK => ?_) AllReadyH.nil
                go_simp
                (first | (go_at_call 16; refine (num_any _ _).mono ?_; rintro e w8 ⟨rfl, rfl⟩) | (go_at_call 15; refine (rsame_self _ _ x1 _ (HV7.out.ext (by with_reducible (repeat (first | exact Ext.rfl_ _ | assumption | refine Ext.drew ?_ | refine Ext.drewN ?_ _ | refine Ext.alloc ?_ _ | refine Ext.trans ?_ (by assumption))))) (HR.out.ext (XW.out.trans (X7.out.trans (by with_reducible (repeat (first | exact Ext.rfl_ _ | assumption | refine Ext.drew ?_ | refine Ext.drewN ?_ _ | refine Ext.alloc ?_ _ | refine Ext.trans ?_ (by assumption)))))))).mono ?_; rintro e w8 ⟨rfl, hw8⟩) | (go_at_call 20; refine (bfrom_any _ _ _ _ _ _ _).mono ?_; rintro e w9 ⟨rfl, hw9⟩; have hfc := Lib.hid (from_cells w8 A4 A1 n4 c4 n1 c1'); rw [← hw9] at hfc; have hx9 : Ext w8 w9 := (by rw [hw9]; exact (by with_reducible (repeat (first | exact Ext.rfl_ _ | assumption | refine Ext.drew ?_ | refine Ext.drewN ?_ _ | refine Ext.alloc ?_ _ | refine Ext.trans ?_ (by assumption))))); clear hw9) | (go_at_call 18; refine (rfrom_any _ n c xs A1 n1 c1' x1.key _ (HL.out.ext (XW.out.trans (X7.out.trans (by with_reducible (repeat (first | exact Ext.rfl_ _ | assumption | refine Ext.drew ?_ | refine Ext.drewN ?_ _ | refine Ext.alloc ?_ _ | refine Ext.trans ?_ (by assumption))))))) hnc (HRK.out.ext (XW.out.trans (X7.out.trans (by with_reducible (repeat (first | exact Ext.rfl_ _ | assumption | refine Ext.drew ?_ | refine Ext.drewN ?_ _ | refine Ext.alloc ?_ _ | refine Ext.trans ?_ (by assumption))))))) hck.2).mono ?_; rintro e w10 ⟨⟨A10, n10, c10, rfl, l10, r10⟩, hw10⟩) | (go_at_call 19; refine (goes_self _ _ A4 n4 c4 xs A1 n1 c1' x1.key A10 n10 c10 0 wr _ HM.out (R46.out.ext XT.out) l4 (HRK.out.ext XW.out) (X7.out.trans (by with_reducible (repeat (first | exact Ext.rfl_ _ | assumption | refine Ext.drew ?_ | refine Ext.drewN ?_ _ | refine Ext.alloc ?_ _ | refine Ext.trans ?_ (by assumption))))) (hw10.keeps _ _ _ hfc.out.1) (hw10.keeps _ _ _ hfc.out.2) r10).mono ?_; rintro e w11 ⟨rfl, hw11⟩))
                (try (go_wp2_with fail))
                refine hK.out _ _ (by (try dsimp only); exact ⟨HS.out _ (XW.out.trans (X7.out.trans (by with_reducible (repeat (first | exact Ext.rfl_ _ | assumption | refine Ext.drew ?_ | refine Ext.drewN ?_ _ | refine Ext.alloc ?_ _ | refine Ext.trans ?_ (by assumption)))))), (box4 HG7.out (by with_reducible (repeat (first | exact Ext.rfl_ _ | assumption | refine Ext.drew ?_ | refine Ext.drewN ?_ _ | refine Ext.alloc ?_ _ | refine Ext.trans ?_ (by assumption))))).1, (box4 HG7.out (by with_reducible (repeat (first | exact Ext.rfl_ _ | assumption | refine Ext.drew ?_ | refine Ext.drewN ?_ _ | refine Ext.alloc ?_ _ | refine Ext.trans ?_ (by assumption))))).2.1, (box4 HG7.out (by with_reducible (repeat (first | exact Ext.rfl_ _ | assumption | refine Ext.drew ?_ | refine Ext.drewN ?_ _ | refine Ext.alloc ?_ _ | refine Ext.trans ?_ (by assumption))))).2.2.1, (box4 HG7.out (by with_reducible (repeat (first | exact Ext.rfl_ _ | assumption | refine Ext.drew ?_ | refine Ext.drewN ?_ _ | refine Ext.alloc ?_ _ | refine Ext.trans ?_ (by assumption))))).2.2.2.1⟩) (fun hHeld => ?_)
                clear hK K
                (try simp only [Act.put, List.getElem_toArray, List.getElem_cons_zero, List.getElem_cons_succ, List.setIfInBounds_toArray, List.set_cons_zero, List.set_cons_succ])
                refine wpAnyH_ready (rs := [27]) (by kernel_rfl) (by simp) ?_
                refine AllReadyH.cons (o := ({ dst := some 125, op := Go.Op.call { callee := Go.Callee.value (Go.Operand.func 19), args := #[Go.Operand.tmp 117, Go.Operand.tmp 124, Go.Operand.const (Go.Value.int Go.IntKind.i64 0)], argTypes := #[44, 37, 3] }, type := 4, pos := "law.go:153", after := #[{ on := 19, ground := Go.Ground.data }, { on := 26, ground := Go.Ground.data }, { on := 26, ground := Go.Ground.chain }, { on := 12, ground := Go.Ground.guard }], guard := some (12, false) } : Go.Oper)) rfl (fun K hK => ?_) AllReadyH.nil
                go_simp
                (first | (go_at_call 16; refine (num_any _ _).mono ?_; rintro e w8 ⟨rfl, rfl⟩) | (go_at_call 15; refine (rsame_self _ _ x1 _ (HV7.out.ext (by with_reducible (repeat (first | exact Ext.rfl_ _ | assumption | refine Ext.drew ?_ | refine Ext.drewN ?_ _ | refine Ext.alloc ?_ _ | refine Ext.trans ?_ (by assumption))))) (HR.out.ext (XW.out.trans (X7.out.trans (by with_reducible (repeat (first | exact Ext.rfl_ _ | assumption | refine Ext.drew ?_ | refine Ext.drewN ?_ _ | refine Ext.alloc ?_ _ | refine Ext.trans ?_ (by assumption)))))))).mono ?_; rintro e w8 ⟨rfl, hw8⟩) | (go_at_call 20; refine (bfrom_any _ _ _ _ _ _ _).mono ?_; rintro e w9 ⟨rfl, hw9⟩; have hfc := Lib.hid (from_cells w8 A4 A1 n4 c4 n1 c1'); rw [← hw9] at hfc; have hx9 : Ext w8 w9 := (by rw [hw9]; exact (by with_reducible (repeat (first | exact Ext.rfl_ _ | assumption | refine Ext.drew ?_ | refine Ext.drewN ?_ _ | refine Ext.alloc ?_ _ | refine Ext.trans ?_ (by assumption))))); clear hw9) | (go_at_call 18; refine (rfrom_any _ n c xs A1 n1 c1' x1.key _ (HL.out.ext (XW.out.trans (X7.out.trans (by with_reducible (repeat (first | exact Ext.rfl_ _ | assumption | refine Ext.drew ?_ | refine Ext.drewN ?_ _ | refine Ext.alloc ?_ _ | refine Ext.trans ?_ (by assumption))))))) hnc (HRK.out.ext (XW.out.trans (X7.out.trans (by with_reducible (repeat (first | exact Ext.rfl_ _ | assumption | refine Ext.drew ?_ | refine Ext.drewN ?_ _ | refine Ext.alloc ?_ _ | refine Ext.trans ?_ (by assumption))))))) hck.2).mono ?_; rintro e w10 ⟨⟨A10, n10, c10, rfl, l10, r10⟩, hw10⟩) | (go_at_call 19; refine (goes_self _ _ A4 n4 c4 xs A1 n1 c1' x1.key A10 n10 c10 0 wr _ HM.out (R46.out.ext XT.out) l4 (HRK.out.ext XW.out) (X7.out.trans (by with_reducible (repeat (first | exact Ext.rfl_ _ | assumption | refine Ext.drew ?_ | refine Ext.drewN ?_ _ | refine Ext.alloc ?_ _ | refine Ext.trans ?_ (by assumption))))) (hw10.keeps _ _ _ hfc.out.1) (hw10.keeps _ _ _ hfc.out.2) r10).mono ?_; rintro e w11 ⟨rfl, hw11⟩))
                (try (go_wp2_with fail))
                refine hK.out _ _ (by (try dsimp only); exact ⟨HS.out _ (XW.out.trans (X7.out.trans (by with_reducible (repeat (first | exact Ext.rfl_ _ | assumption | refine Ext.drew ?_ | refine Ext.drewN ?_ _ | refine Ext.alloc ?_ _ | refine Ext.trans ?_ (by assumption)))))), (box4 HG7.out (by with_reducible (repeat (first | exact Ext.rfl_ _ | assumption | refine Ext.drew ?_ | refine Ext.drewN ?_ _ | refine Ext.alloc ?_ _ | refine Ext.trans ?_ (by assumption))))).1, (box4 HG7.out (by with_reducible (repeat (first | exact Ext.rfl_ _ | assumption | refine Ext.drew ?_ | refine Ext.drewN ?_ _ | refine Ext.alloc ?_ _ | refine Ext.trans ?_ (by assumption))))).2.1, (box4 HG7.out (by with_reducible (repeat (first | exact Ext.rfl_ _ | assumption | refine Ext.drew ?_ | refine Ext.drewN ?_ _ | refine Ext.alloc ?_ _ | refine Ext.trans ?_ (by assumption))))).2.2.1, (box4 HG7.out (by with_reducible (repeat (first | exact Ext.rfl_ _ | assumption | refine Ext.drew ?_ | refine Ext.drewN ?_ _ | refine Ext.alloc ?_ _ | refine Ext.trans ?_ (by assumption))))).2.2.2.1⟩) (fun hHeld => ?_)
                clear hK K
                (try simp only [Act.put, List.getElem_toArray, List.getElem_cons_zero, List.getElem_cons_succ, List.setIfInBounds_toArray, List.set_cons_zero, List.set_cons_succ])
                refine wpAnyH_take (i := 28) (oi := ({ dst := some 126, op := Go.Op.unOp Go.UnOp.not 4 (Go.Operand.tmp 125), type := 4, pos := "law.go:153", after := #[{ on := 27, ground := Go.Ground.data }, { on := 12, ground := Go.Ground.guard }], guard := some (12, false) } : Go.Oper)) (v := ?v44) rfl (by kernel_rfl) (by kernel_rfl) (by kernel_rfl) (fun _ _ _ h => h) (Or.inl ⟨by rfl, ?hy44⟩) (by assumption) ?rest44
                case hy44 => (intro w hSw; (try dsimp only at hSw); go_simp; (try with_reducible rfl))
                (try simp only [Act.put, List.getElem_toArray, List.getElem_cons_zero, List.getElem_cons_succ, List.setIfInBounds_toArray, List.set_cons_zero, List.set_cons_succ])
                refine wpAnyH_take (i := 29) (oi := ({ dst := some 127, op := Go.Op.pick (Go.Operand.tmp 110) (Go.Operand.const (Go.Value.bool true)) (Go.Operand.tmp 126), type := 4, pos := "law.go:153", after := #[{ on := 12, ground := Go.Ground.data }, { on := 28, ground := Go.Ground.data }], guard := none } : Go.Oper)) (v := ?v45) rfl (by kernel_rfl) (by kernel_rfl) (by kernel_rfl) (fun _ _ _ h => h) (Or.inl ⟨by rfl, ?hy45⟩) (by assumption) ?rest45
                case hy45 => (intro w hSw; (try dsimp only at hSw); go_simp; (try with_reducible rfl))
                (try simp only [Act.put, List.getElem_toArray, List.getElem_cons_zero, List.getElem_cons_succ, List.setIfInBounds_toArray, List.set_cons_zero, List.set_cons_succ])
                refine wpAnyH_done (by kernel_rfl) ?_ _
                go_wp2
                go_roundw
                case rel => exact ⟨k + 1, by go_num, by omega, by omega, Lib.hid (XT.out.trans (X7.out.trans (by with_reducible (repeat (first | exact Ext.rfl_ _ | assumption | refine Ext.drew ?_ | refine Ext.drewN ?_ _ | refine Ext.alloc ?_ _ | refine Ext.trans ?_ (by assumption))))))⟩
                case measure => simp [intOf]; omega
            · go_wp2
              go_ret
              exact ⟨rfl, X6.out.trans XT.out⟩
          · go_wp2
            go_ret
            exact ⟨rfl, X6.out.trans XT.out⟩
end Go.Proofs.Ythfhococglbpoaa
