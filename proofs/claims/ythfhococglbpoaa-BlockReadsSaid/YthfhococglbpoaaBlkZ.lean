/- A row of entries of one's own whose bytes may hold anything (BlockReads overwrites them). Conditions: none. -/
/- The walk of BlockReads. Conditions: the bytes read. -/
import Derived.Test.YthfhococglbpoaaBlkQ
namespace Go.Proofs.Ythfhococglbpoaa
set_option linter.unusedSimpArgs false
set_option linter.unusedVariables false
open Go.RowKit

/-- Entries of one's own at block g: the headers of their bytes, which may hold anything. -/
def RowZ (w : World) (base g n : Nat) : Prop :=
  (∃ cs, w.heap[g]? = some (.cells cs 28 (0, 0))) ∧ ∀ k, k < n → ∃ A1 n1 c1 B1 m1 d1, w.cell? ⟨g, k * 4, none⟩ = some (.slice A1 n1 c1) ∧ w.cell? ⟨g, k * 4 + 3, none⟩ = some (.slice B1 m1 d1) ∧ OwnS w base (.slice A1 n1 c1) ∧ OwnS w base (.slice B1 m1 d1) ∧ n1 ≤ B47 ∧ m1 ≤ B47
theorem OwnF.rowZ {w : World} {base : Nat} {v : Value} {xs : List Ent} (h : OwnF w base v xs) : ∃ A c, v = .slice A xs.length c ∧ xs.length ≤ c ∧ (0 < xs.length → ∃ g, A = some ⟨g, 0, none⟩ ∧ base ≤ g ∧ RowZ w base g xs.length) := by
  obtain ⟨hs, hl, hown, hr⟩ := h
  rcases hown.2 with ⟨rfl, h0⟩ | ⟨g, cap, cur, rfl, hb, hg, hle, _⟩
  · exact ⟨none, 0, by rw [h0], by omega, fun h => absurd h (by omega)⟩
  · refine ⟨some ⟨g, 0, none⟩, cap, rfl, hle, fun _ => ⟨g, rfl, hb, ⟨cur, hg⟩, fun k hk => ?_⟩⟩
    have hk' : k < hs.length := by omega
    have hcell : ∀ j, j < 4 → w.cell? ⟨g, k * 4 + j, none⟩ = (cellsE hs[k] xs[k])[j]? := fun j hj => by
      rw [World.ownsRow.cellAt hown (k * 4 + j) (by omega), rowE_get hl k hk j hj]
    obtain ⟨A, n, c, A', n', c', hv, o1, o2, _, _, _, l1, _, l2, _⟩ := hr k hk' hk
    simp [cellsE] at hv
    obtain ⟨⟨e1, e2, e3⟩, e4, e5, e6⟩ := hv
    refine ⟨A, n, c, A', n', c', ?_, ?_, o1.s, o2.s, l1, l2⟩
    · have := hcell 0 (by omega); simpa [cellsE, e1, e2, e3] using this
    · have := hcell 3 (by omega); simpa [cellsE, e4, e5, e6] using this
theorem RowZ.ext {w w' : World} {base g n : Nat} (h : RowZ w base g n) (x : Ext w w') : RowZ w' base g n := by
  obtain ⟨⟨cs, hg⟩, hr⟩ := h
  refine ⟨⟨cs, x.blk hg⟩, fun k hk => ?_⟩
  obtain ⟨A1, n1, c1, B1, m1, d1, h1, h2, h3, h4, h5⟩ := hr k hk
  exact ⟨A1, n1, c1, B1, m1, d1, x.keeps _ _ _ h1, x.keeps _ _ _ h2, h3.ext x, h4.ext x, h5⟩
/-- A byte is overwritten. -/
theorem RowZ.set {w : World} {base g n q : Nat} {cs : Array Value} {fr : Nat × Nat} (h : RowZ w base g n) (hq : w.heap[q]? = some (.cells cs 5 fr)) (j : Nat) (b : UInt8) (u : Value) (hu : u = .int .u8 (b.toNat : Int)) : RowZ (w.setCell ⟨q, j, none⟩ u) base g n := by
  obtain ⟨⟨ds, hg⟩, hr⟩ := h
  have hne : q ≠ g := by
    intro e
    subst e
    rw [hq] at hg
    injection hg with e1
    injection e1 with _ e2
    exact absurd e2 (by decide)
  refine ⟨⟨ds, (Below.heap_setCell _ _ _ _ (fun e => hne (by simpa using e.symm))).trans hg⟩, fun k hk => ?_⟩
  obtain ⟨A1, n1, c1, B1, m1, d1, h1, h2, h3, h4, h5⟩ := hr k hk
  refine ⟨A1, n1, c1, B1, m1, d1, ?_, ?_, h3.set b u hu, h4.set b u hu, h5⟩
  · rw [World.cell?_setCell_other w ⟨q, j, none⟩ ⟨g, k * 4, none⟩ _ (fun e => hne (by cases e; rfl))]; exact h1
  · rw [World.cell?_setCell_other w ⟨q, j, none⟩ ⟨g, k * 4 + 3, none⟩ _ (fun e => hne (by cases e; rfl))]; exact h2
theorem RowZ.ne {w : World} {base g n q : Nat} {cs : Array Value} {fr : Nat × Nat} (h : RowZ w base g n) (hq : w.heap[q]? = some (.cells cs 5 fr)) : q ≠ g := by
  obtain ⟨⟨ds, hg⟩, _⟩ := h
  intro e
  subst e
  rw [hq] at hg
  injection hg with e1
  injection e1 with _ e2
  exact absurd e2 (by decide)
theorem RowZ.key {w : World} {base g n k n1 c1 : Nat} {A1 : Option Addr} (h : RowZ w base g n) (hk : k < n) (hc : w.cell? ⟨g, k * 4, none⟩ = some (.slice A1 n1 c1)) : OwnS w base (.slice A1 n1 c1) := by
  obtain ⟨A, m, c, B, m', d', h1, _, h3, _⟩ := h.2 k hk
  rw [h1] at hc
  cases hc
  exact h3
theorem RowZ.val {w : World} {base g n k n1 c1 : Nat} {A1 : Option Addr} (h : RowZ w base g n) (hk : k < n) (hc : w.cell? ⟨g, k * 4 + 3, none⟩ = some (.slice A1 n1 c1)) : OwnS w base (.slice A1 n1 c1) := by
  obtain ⟨A, m, c, B, m', d', _, h2, _, h4, _⟩ := h.2 k hk
  rw [h2] at hc
  cases hc
  exact h4

open Go.RowKit

theorem rd119 (w : World) : Rd (w.alloc (.cells #[.int .u8 119] 5)) (some ⟨w.heap.size, 0, none⟩) 1 [119] := by
  have h := blk1 w (.cells #[.int .u8 119] 5)
  refine ⟨rfl, fun _ => ⟨_, 0, rfl, fun j hj => ?_⟩⟩
  match j, hj with
  | 0, _ => unfold World.cell?; simp only [h]; rfl
theorem OwnI.at_ {w : World} {base n c k : Nat} {A : Option Addr} {ps : List Int} (h : OwnI w base (.slice A n c) ps) (hk : k < ps.length) : ∃ g, A = some ⟨g, 0, none⟩ ∧ n = ps.length ∧ n ≤ c ∧ w.cell? ⟨g, k, none⟩ = some (.int .i64 ps[k]) := by
  rcases h.2 with ⟨_, h0⟩ | ⟨g, cap, cur, hv, hb, hg, hle, _⟩
  · omega
  · cases hv
    refine ⟨g, rfl, rfl, hle, ?_⟩
    have := World.ownsRow.cellAt h k (by omega)
    rw [this]
    simp [hk]

set_option maxRecDepth 100000 in
set_option maxHeartbeats 4000000 in
theorem reads_walk (A : Option Addr) (n c : Nat) (b : Bs) (w : World) (hx : Rd w A n b) (hnc : n ≤ c) (hn : n ≤ B47) :
    Calls Try.prog 8 #[.slice A n c] w fun e w' => e = .returned (.bool true) ∧ Ext w w' := by
  have HX := Lib.hid hx
  have hbl := hx.1
  clear hx
  go_enter Try.func8, Try.ntmps8
  by_cases h9 : (100000 : Int) < (n : Int)
  · have d9 : decide (100000 < n) = true := decide_eq_true (by omega)
    go_wp2_with fail
    refine (known_any _).mono ?_
    rintro e w1 ⟨rfl, hw1⟩
    go_wp2
    go_ret
    exact ⟨rfl, (by with_reducible (repeat (first | exact Ext.rfl_ _ | assumption | refine Ext.drew ?_ | refine Ext.drewN ?_ _ | refine Ext.alloc ?_ _ | refine Ext.trans ?_ (by assumption))))⟩
  · have d9 : decide ((100000 : Int) < (n : Int)) = false := decide_eq_false h9
    have d9n : decide (100000 < n) = false := decide_eq_false (by omega)
    have hn40 : n ≤ B40 := by unfold B40; omega
    have HBL := Lib.hid hbl
    clear hbl
    go_wp2_with (first | (at_builtin; refine wp_app rfl _ _ rfl w.heap.size _ [] rfl (OwnB.nil _ _) A n c b rfl HX.out (by rw [HBL.out]; simp only [List.length_nil]; omega) (Nat.le_refl _) ?_; intro v1 w1 o1 g1; rw [List.nil_append] at o1; have Z1 := Lib.hid ((Ext.rfl_ w).growBy g1 (OwnB.nil w w.heap.size) (Nat.le_refl _)); have O1 := Lib.hid o1; clear o1 g1) | (at_builtin; refine wp_app rfl _ _ rfl w.heap.size _ b rfl (O1.out.ext (Ext.alloc (Ext.rfl_ w1) _)) (some ⟨w1.heap.size, 0, none⟩) 1 1 [119] rfl (rd119 w1) (by rw [HBL.out]; simp only [List.length_cons, List.length_nil]; unfold B47; omega) (Ext.size (Z1.out.trans (Ext.alloc (Ext.rfl_ w1) _))) ?_; intro v2 w2 o2 g2; have Z2 := Lib.hid ((Z1.out.trans (Ext.alloc (Ext.rfl_ w1) _)).growBy g2 (O1.out.ext (Ext.alloc (Ext.rfl_ w1) _)) (Nat.le_refl _)); obtain ⟨A2, n2, c2, hv2, l2, r2, _⟩ := o2.formN; subst hv2; obtain rfl : n2 = n + 1 := (by have h1 := r2.1; rw [List.length_append, HBL.out] at h1; simpa using h1.symm); have R2 := Lib.hid r2; have hc2 : n ≤ c2 := (by omega); have hc2i : (n : Int) ≤ (c2 : Int) := (by omega); clear o2 g2 r2 O1) | fail)
    have hr2 : Rd w2 A2 n b := by
      have := R2.out.pre (k := n) (by omega)
      rwa [List.take_left' HBL.out] at this
    have RB2 := Lib.hid hr2
    clear hr2
    refine (bread_any A2 n c2 b _ RB2.out hc2 hn40).mono ?_
    rintro e w3 ⟨vl, rfl, hF, hw3⟩
    have hlen := opE_len b
    obtain ⟨Al, nl, cl, rfl, hcl, hrl, _⟩ := hF.ownL.formN (by unfold B41; omega)
    obtain ⟨Al', cl', hv, _, hz⟩ := hF.rowZ
    cases hv
    have HRL := Lib.hid hrl
    have HZ := Lib.hid hz
    have X3 := Lib.hid (Z2.out.trans hw3)
    have Y3 := Lib.hid hw3
    clear hF hrl hz hw3
    go_wp2_with fail
    refine (rreadB_any A n c b _ (HX.out.ext X3.out) hnc hn40).mono ?_
    rintro e w4 ⟨vm, va, rfl, hFm, hIa, hw4⟩
    obtain ⟨Am, nm, cm, rfl, hcm, hrm, _⟩ := hFm.ownL.formN (by unfold B41; omega)
    obtain ⟨Aa, ca, rfl, hca⟩ := own_form hIa
    have HRM := Lib.hid hrm
    have HIA := Lib.hid hIa
    have Y4 := Lib.hid (Y3.out.trans hw4)
    have HRL4 := Lib.hid (HRL.out.ext hw4)
    have HZ4 := Lib.hid (fun h => (let ⟨g, e, hb, r⟩ := HZ.out h; ⟨g, e, hb, r.ext hw4⟩ : ∃ g, Al = some ⟨g, 0, none⟩ ∧ w2.heap.size ≤ g ∧ RowZ w4 w2.heap.size g (opE b).length))
    clear hFm hrm hIa hw4 HZ HRL
    go_wp2_with fail
    refine (brest_any A2 n c2 b _ (RB2.out.ext Y4.out) hc2 hn40).mono ?_
    rintro e w5 ⟨vr, rfl, hIr, hw5⟩
    obtain ⟨Ar, cr, rfl, hcr⟩ := own_form hIr
    have HIR := Lib.hid hIr
    have HIA5 := Lib.hid (HIA.out.ext hw5)
    have Y5 := Lib.hid (Y4.out.trans hw5)
    have HRL5 := Lib.hid (HRL4.out.ext hw5)
    have HRM5 := Lib.hid (HRM.out.ext hw5)
    have HZ5 := Lib.hid (fun h => (let ⟨g, e, hb, r⟩ := HZ4.out h; ⟨g, e, hb, r.ext hw5⟩ : ∃ g, Al = some ⟨g, 0, none⟩ ∧ w2.heap.size ≤ g ∧ RowZ w5 w2.heap.size g (opE b).length))
    obtain ⟨z, hzz⟩ : ∃ z, z = opN b := ⟨_, rfl⟩
    rw [← hzz]
    clear hIr hw5 hzz HIA HZ4 HRL4 HRM
    go_wp2_with fail
    refine (rsameL_any Al _ cl Am nm cm (opE b) (opE b) _ HRL5.out HRM5.out).mono ?_
    rintro e w6 ⟨rfl, hw6⟩
    rw [decide_eq_true rfl]
    have hzb : (z == z) = true := by simp
    have Y6 := Lib.hid (Y5.out.trans hw6)
    have HIR6 := Lib.hid (HIR.out.ext hw6)
    have HIA6 := Lib.hid (HIA5.out.ext hw6)
    have HZ6 := Lib.hid (fun h => (let ⟨g, e, hb, r⟩ := HZ5.out h; ⟨g, e, hb, r.ext hw6⟩ : ∃ g, Al = some ⟨g, 0, none⟩ ∧ w2.heap.size ≤ g ∧ RowZ w6 w2.heap.size g (opE b).length))
    clear hw6 HIR HIA5 HZ5 HRL5 HRM5
    go_wp2_with fail
    refine (num_any _ _).mono ?_
    rintro e w7 ⟨rfl, rfl⟩
    go_wp2_with fail
    refine (num_any _ _).mono ?_
    rintro e w7 ⟨rfl, rfl⟩
    obtain ⟨P, hP⟩ : ∃ P, P = (posI (opE b)).length := ⟨_, rfl⟩
    obtain ⟨N, hN⟩ : ∃ N, N = (opE b).length := ⟨_, rfl⟩
    rw [← hN] at HZ6 hcl hlen ⊢
    have HP := Lib.hid hP
    have hp6 : P ≤ 256 := by rw [hP]; unfold posI; rw [List.length_map, posB_len]; omega
    rw [← hP] at HIR6 HIA6 hca hcr ⊢
    clear hP hN
    go_wp2
    go_loopw [11] (fun i wr => ∃ k : Nat, i = .int .i64 k ∧ k ≤ P ∧ Hid (Ext w6 wr)) (fun i _ => P - (intOf i).toNat)
    case atStart => exact ⟨0, rfl, Nat.zero_le _, Lib.hid (Ext.rfl_ _)⟩
    case round =>
      obtain ⟨k, rfl, hk, XT⟩ := hrel
      by_cases c1 : (k : Int) < (P : Int)
      · have hkP : k < (posI (opE b)).length := by rw [← HP.out]; omega
        have hkP2 : k < P := by omega
        have HK2 := Lib.hid hkP2
        obtain ⟨g1, rfl, _, _, q1⟩ := HIR6.out.at_ hkP
        obtain ⟨g2, rfl, _, _, q2⟩ := HIA6.out.at_ hkP
        obtain ⟨pv, hpv⟩ : ∃ pv, pv = (posI (opE b))[k] := ⟨_, rfl⟩
        rw [← hpv] at q1 q2
        have Q1 := Lib.hid (XT.out.keeps _ _ _ q1)
        have Q2 := Lib.hid (XT.out.keeps _ _ _ q2)
        clear hpv q1 q2
        go_wp2
        refine wp_region_held_drew (S := (fun W => W.cell? ⟨g1, k, none⟩ = some (.int .i64 pv) ∧ W.cell? ⟨g2, k, none⟩ = some (.int .i64 pv))) (by kernel_rfl) (by (try dsimp only); exact ⟨(show Ext wr _ from (by with_reducible (repeat (first | exact Ext.rfl_ _ | assumption | refine Ext.drew ?_ | refine Ext.drewN ?_ _ | refine Ext.alloc ?_ _ | refine Ext.trans ?_ (by assumption))))).keeps _ _ _ Q1.out, (show Ext wr _ from (by with_reducible (repeat (first | exact Ext.rfl_ _ | assumption | refine Ext.drew ?_ | refine Ext.drewN ?_ _ | refine Ext.alloc ?_ _ | refine Ext.trans ?_ (by assumption))))).keeps _ _ _ Q2.out⟩) (fun hHeld => ?_)
        refine wpAnyH_take (i := 0) (oi := ({ dst := some 74, op := Go.Op.move (Go.Operand.tmp 9), type := 38, pos := "law.go:93", after := #[], guard := none } : Go.Oper)) (v := ?v1) rfl (by kernel_rfl) (by kernel_rfl) (by kernel_rfl) (fun _ _ _ h => h) (Or.inl ⟨by rfl, ?hy1⟩) (by assumption) ?rest1
        case hy1 => (intro w hSw; (try dsimp only at hSw); go_simp; (try with_reducible rfl))
        (try simp only [Act.put, List.getElem_toArray, List.getElem_cons_zero, List.getElem_cons_succ, List.setIfInBounds_toArray, List.set_cons_zero, List.set_cons_succ])
        refine wpAnyH_take (i := 1) (oi := ({ dst := some 75, op := Go.Op.move (Go.Operand.tmp 11), type := 3, pos := "law.go:93", after := #[], guard := none } : Go.Oper)) (v := ?v2) rfl (by kernel_rfl) (by kernel_rfl) (by kernel_rfl) (fun _ _ _ h => h) (Or.inl ⟨by rfl, ?hy2⟩) (by assumption) ?rest2
        case hy2 => (intro w hSw; (try dsimp only at hSw); go_simp; (try with_reducible rfl))
        (try simp only [Act.put, List.getElem_toArray, List.getElem_cons_zero, List.getElem_cons_succ, List.setIfInBounds_toArray, List.set_cons_zero, List.set_cons_succ])
        refine wpAnyH_take (i := 2) (oi := ({ dst := some 76, op := Go.Op.indexAddr 38 (Go.Operand.tmp 74) (Go.Operand.tmp 75), type := 0, pos := "law.go:93", after := #[{ on := 0, ground := Go.Ground.data }, { on := 1, ground := Go.Ground.data }], guard := none } : Go.Oper)) (v := ?v3) rfl (by kernel_rfl) (by kernel_rfl) (by kernel_rfl) (fun _ _ _ h => h) (Or.inl ⟨by rfl, ?hy3⟩) (by assumption) ?rest3
        case hy3 => (intro w hSw; (try dsimp only at hSw); go_simp; (try with_reducible rfl))
        (try simp only [Act.put, List.getElem_toArray, List.getElem_cons_zero, List.getElem_cons_succ, List.setIfInBounds_toArray, List.set_cons_zero, List.set_cons_succ])
        refine wpAnyH_take (i := 3) (oi := ({ dst := some 77, op := Go.Op.load 3 (Go.Operand.tmp 76), type := 3, pos := "law.go:93", after := #[{ on := 2, ground := Go.Ground.data }], guard := none } : Go.Oper)) (v := ?v4) rfl (by kernel_rfl) (by kernel_rfl) (by kernel_rfl) (fun _ _ _ h => h) (Or.inl ⟨by rfl, ?hy4⟩) (by assumption) ?rest4
        case hy4 => (intro w hSw; (try dsimp only at hSw); go_simp; (try with_reducible rfl))
        (try simp only [Act.put, List.getElem_toArray, List.getElem_cons_zero, List.getElem_cons_succ, List.setIfInBounds_toArray, List.set_cons_zero, List.set_cons_succ])
        refine wpAnyH_take (i := 4) (oi := ({ dst := some 78, op := Go.Op.move (Go.Operand.tmp 7), type := 38, pos := "law.go:93", after := #[], guard := none } : Go.Oper)) (v := ?v5) rfl (by kernel_rfl) (by kernel_rfl) (by kernel_rfl) (fun _ _ _ h => h) (Or.inl ⟨by rfl, ?hy5⟩) (by assumption) ?rest5
        case hy5 => (intro w hSw; (try dsimp only at hSw); go_simp; (try with_reducible rfl))
        (try simp only [Act.put, List.getElem_toArray, List.getElem_cons_zero, List.getElem_cons_succ, List.setIfInBounds_toArray, List.set_cons_zero, List.set_cons_succ])
        refine wpAnyH_take (i := 5) (oi := ({ dst := some 79, op := Go.Op.move (Go.Operand.tmp 11), type := 3, pos := "law.go:93", after := #[], guard := none } : Go.Oper)) (v := ?v6) rfl (by kernel_rfl) (by kernel_rfl) (by kernel_rfl) (fun _ _ _ h => h) (Or.inl ⟨by rfl, ?hy6⟩) (by assumption) ?rest6
        case hy6 => (intro w hSw; (try dsimp only at hSw); go_simp; (try with_reducible rfl))
        (try simp only [Act.put, List.getElem_toArray, List.getElem_cons_zero, List.getElem_cons_succ, List.setIfInBounds_toArray, List.set_cons_zero, List.set_cons_succ])
        refine wpAnyH_take (i := 6) (oi := ({ dst := some 80, op := Go.Op.indexAddr 38 (Go.Operand.tmp 78) (Go.Operand.tmp 79), type := 0, pos := "law.go:93", after := #[{ on := 4, ground := Go.Ground.data }, { on := 5, ground := Go.Ground.data }], guard := none } : Go.Oper)) (v := ?v7) rfl (by kernel_rfl) (by kernel_rfl) (by kernel_rfl) (fun _ _ _ h => h) (Or.inl ⟨by rfl, ?hy7⟩) (by assumption) ?rest7
        case hy7 => (intro w hSw; (try dsimp only at hSw); go_simp; (try with_reducible rfl))
        (try simp only [Act.put, List.getElem_toArray, List.getElem_cons_zero, List.getElem_cons_succ, List.setIfInBounds_toArray, List.set_cons_zero, List.set_cons_succ])
        refine wpAnyH_take (i := 7) (oi := ({ dst := some 81, op := Go.Op.load 3 (Go.Operand.tmp 80), type := 3, pos := "law.go:93", after := #[{ on := 6, ground := Go.Ground.data }], guard := none } : Go.Oper)) (v := ?v8) rfl (by kernel_rfl) (by kernel_rfl) (by kernel_rfl) (fun _ _ _ h => h) (Or.inl ⟨by rfl, ?hy8⟩) (by assumption) ?rest8
        case hy8 => (intro w hSw; (try dsimp only at hSw); go_simp; (try with_reducible rfl))
        (try simp only [Act.put, List.getElem_toArray, List.getElem_cons_zero, List.getElem_cons_succ, List.setIfInBounds_toArray, List.set_cons_zero, List.set_cons_succ])
        refine wpAnyH_take (i := 8) (oi := ({ dst := some 82, op := Go.Op.binOp Go.BinOp.neq 3 (Go.Operand.tmp 77) (Go.Operand.tmp 81) 3, type := 4, pos := "law.go:93", after := #[{ on := 3, ground := Go.Ground.data }, { on := 7, ground := Go.Ground.data }], guard := none } : Go.Oper)) (v := ?v9) rfl (by kernel_rfl) (by kernel_rfl) (by kernel_rfl) (fun _ _ _ h => h) (Or.inl ⟨by rfl, ?hy9⟩) (by assumption) ?rest9
        case hy9 => (intro w hSw; (try dsimp only at hSw); go_simp; (try with_reducible rfl))
        (try simp only [Act.put, List.getElem_toArray, List.getElem_cons_zero, List.getElem_cons_succ, List.setIfInBounds_toArray, List.set_cons_zero, List.set_cons_succ])
        refine wpAnyH_done (by kernel_rfl) ?_ _
        all_goals
          go_wp2
          go_roundw
          case rel => exact ⟨k + 1, by go_num, (by have := HK2.out; omega), Lib.hid (XT.out.trans (by with_reducible (repeat (first | exact Ext.rfl_ _ | assumption | refine Ext.drew ?_ | refine Ext.drewN ?_ _ | refine Ext.alloc ?_ _ | refine Ext.trans ?_ (by assumption)))))⟩
          case measure => have := HK2.out; simp [intOf]; omega
      · have HZ7 := Lib.hid (fun h => (let ⟨g, e, hb, r⟩ := HZ6.out h; ⟨g, e, r.ext XT.out⟩ : ∃ g, Al = some ⟨g, 0, none⟩ ∧ RowZ wr w2.heap.size g N))
        have Y7 := Lib.hid (Y6.out.trans XT.out)
        obtain ⟨wo, rfl⟩ : ∃ wo : World, wo = wr := ⟨_, rfl⟩
        clear XT HIR6 HIA6 HZ6 hk
        go_wp2
        go_loopw [12] (fun i wr => ∃ k : Nat, i = .int .i64 k ∧ k ≤ N ∧ Hid (Ext w2 wr) ∧ Hid (0 < N → ∃ g, Al = some ⟨g, 0, none⟩ ∧ RowZ wr w2.heap.size g N)) (fun i _ => N - (intOf i).toNat)
        case atStart => exact ⟨0, rfl, Nat.zero_le _, Y7, HZ7⟩
        case round =>
          obtain ⟨k, rfl, hk, XR, hzr⟩ := hrel
          by_cases cN : (k : Int) < (N : Int)
          · obtain ⟨g, rfl, hz⟩ := hzr.out (by omega)
            have hk2 : k < N := by omega
            obtain ⟨A1, n1, c1', B1, m1, d1, e0, e3, _, _, hn1, hm1⟩ := hz.2 k hk2
            unfold B47 at hn1 hm1
            have ZR := Lib.hid hz
            have E0 := Lib.hid e0
            have E3 := Lib.hid e3
            clear hz hzr e0 e3
            go_wp2
            go_loopw [13] (fun j wq => ∃ q : Nat, j = .int .i64 q ∧ q ≤ n1 ∧ Hid (Ext w2 wq) ∧ Hid (RowZ wq w2.heap.size g N) ∧ Hid (wq.cell? ⟨g, k * 4, none⟩ = some (.slice A1 n1 c1')) ∧ Hid (wq.cell? ⟨g, k * 4 + 3, none⟩ = some (.slice B1 m1 d1))) (fun j _ => n1 - (intOf j).toNat)
            case atStart => exact ⟨0, rfl, Nat.zero_le _, XR, ZR, E0, E3⟩
            case round =>
              clear XR ZR E0 E3
              obtain ⟨q, rfl, hq, XR, ZR, E0, E3⟩ := hrel
              have e0 := E0.out
              have e3 := E3.out
              by_cases c3 : (q : Int) < (n1 : Int)
              · obtain ⟨gb, bb, cs, fr, rfl, hgb, hcell, hfro, hheap⟩ := (ZR.out.key hk2 e0).at_ (show q < n1 by omega)
                have HQ := Lib.hid (show q < n1 by omega)
                have HNE := Lib.hid (ZR.out.ne hheap)
                have HH := Lib.hid hheap
                clear hheap
                go_wp2
                go_roundw
                case rel =>
                  refine ⟨q + 1, by go_num, (by have := HQ.out; omega), Lib.hid (XR.out.setCell hgb _), Lib.hid (ZR.out.set HH.out q 102 _ rfl), Lib.hid ?_, Lib.hid ?_⟩
                  · rw [World.cell?_setCell_other _ ⟨gb, q, none⟩ ⟨g, k * 4, none⟩ _ (fun e => HNE.out (by cases e; rfl))]; exact E0.out
                  · rw [World.cell?_setCell_other _ ⟨gb, q, none⟩ ⟨g, k * 4 + 3, none⟩ _ (fun e => HNE.out (by cases e; rfl))]; exact E3.out
                case measure => have := HQ.out; simp [intOf]; omega
              · skip
                go_wp2
                go_loopw [14] (fun j wq => ∃ q : Nat, j = .int .i64 q ∧ q ≤ m1 ∧ Hid (Ext w2 wq) ∧ Hid (RowZ wq w2.heap.size g N) ∧ Hid (wq.cell? ⟨g, k * 4, none⟩ = some (.slice A1 n1 c1')) ∧ Hid (wq.cell? ⟨g, k * 4 + 3, none⟩ = some (.slice B1 m1 d1))) (fun j _ => m1 - (intOf j).toNat)
                case atStart => exact ⟨0, rfl, Nat.zero_le _, XR, ZR, E0, E3⟩
                case round =>
                  clear XR ZR E0 E3
                  obtain ⟨q, rfl, hq, XR, ZR, E0, E3⟩ := hrel
                  have e0 := E0.out
                  have e3 := E3.out
                  by_cases c3 : (q : Int) < (m1 : Int)
                  · obtain ⟨gb, bb, cs, fr, rfl, hgb, hcell, hfro, hheap⟩ := (ZR.out.val hk2 e3).at_ (show q < m1 by omega)
                    have HQ := Lib.hid (show q < m1 by omega)
                    have HNE := Lib.hid (ZR.out.ne hheap)
                    have HH := Lib.hid hheap
                    clear hheap
                    go_wp2
                    go_roundw
                    case rel =>
                      refine ⟨q + 1, by go_num, (by have := HQ.out; omega), Lib.hid (XR.out.setCell hgb _), Lib.hid (ZR.out.set HH.out q 102 _ rfl), Lib.hid ?_, Lib.hid ?_⟩
                      · rw [World.cell?_setCell_other _ ⟨gb, q, none⟩ ⟨g, k * 4, none⟩ _ (fun e => HNE.out (by cases e; rfl))]; exact E0.out
                      · rw [World.cell?_setCell_other _ ⟨gb, q, none⟩ ⟨g, k * 4 + 3, none⟩ _ (fun e => HNE.out (by cases e; rfl))]; exact E3.out
                    case measure => have := HQ.out; simp [intOf]; omega
                  · skip
                    go_wp2
                    go_roundw
                    case rel => exact ⟨k + 1, by go_num, by omega, XR, Lib.hid (fun _ => ⟨g, rfl, ZR.out⟩)⟩
                    case measure => simp [intOf]; omega
          · have s1 := (R2.out.ext XR.out).str (P := Try.prog) c2 22 5 9 Try.underlying22 Try.underlying5 Try.underlying9
            have s2 := (HX.out.ext (Z2.out.trans XR.out)).str (P := Try.prog) c 22 5 9 Try.underlying22 Try.underlying5 Try.underlying9
            have happ : ((⟨b.toArray⟩ : ByteArray) ++ ⟨#[119]⟩) = ⟨(b ++ [119]).toArray⟩ := by apply ByteArray.ext; simp
            have hlx : ¬ 9223372036854775807 < b.length + 1 := by rw [HBL.out]; omega
            go_wp2_with fail
            refine (known_any _).mono ?_
            rintro e w9 ⟨rfl, hw9⟩
            go_wp2
            go_ret
            exact ⟨rfl, Z2.out.trans (XR.out.trans hw9)⟩
end Go.Proofs.Ythfhococglbpoaa
