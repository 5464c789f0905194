/- WalTorn: what is good of a list of batches; the walk. Conditions: the batches read. -/
import Derived.Test.YthdahmicjlplcaaBatK
import Derived.BigQuiet
import Derived.Deep.Cut
import Derived.Deep.CutRange
namespace Go.Proofs.Ythdahmicjlplcaa
set_option linter.unusedSimpArgs false
set_option linter.unusedVariables false
open Go.RowKit

def logW (g : List Bat) : Bs := (g.map fun x => frmB (payB x)).flatten
theorem logW_snoc (g : List Bat) (x : Bat) : logW (g ++ [x]) = logW g ++ frmB (payB x) := by simp [logW]
theorem wtB_take_le (l : List Bat) (k : Nat) : wtB (l.take k) ≤ wtB l := by
  have : wtB l = wtB (l.take k) + wtB (l.drop k) := by
    conv => lhs; rw [← List.take_append_drop k l]
    unfold wtB
    rw [List.map_append, List.sum_append]
  omega
/-- Batches that were taken of the first k. -/
structure GoodI (l : List Bat) (k : Nat) (g : List Bat) : Prop where
  may : ∀ x ∈ g, mayW x = true ∧ mayF (payB x).length = true
  up : g.Pairwise fun a b => a.idx < b.idx
  few : g.length ≤ k
  sum : wtB g ≤ wtB (l.take k)
theorem GoodI.start (l : List Bat) : GoodI l 0 [] := ⟨fun x h => absurd h (by simp), List.Pairwise.nil, Nat.le_refl _, Nat.zero_le _⟩
theorem GoodI.skip {l : List Bat} {k : Nat} {g : List Bat} {x : Bat} (h : GoodI l k g) (hx : l[k]? = some x) : GoodI l (k + 1) g :=
  ⟨h.may, h.up, Nat.le_succ_of_le h.few, by rw [wtB_take hx]; have := h.sum; omega⟩
theorem wrWN_zero {x : Bat} (h : wrWN x = 0) : mayW x = true ∧ mayF (payB x).length = true := by
  unfold wrWN at h
  split at h
  · split at h
    · exact ⟨by assumption, by assumption⟩
    · cases h
  · cases h
theorem GoodI.add {l : List Bat} {k : Nat} {g : List Bat} {x : Bat} (h : GoodI l k g) (hx : l[k]? = some x) (hb : behW g x = true) (hn : wrWN x = 0) : GoodI l (k + 1) (g ++ [x]) := by
  refine ⟨fun y hy => ?_, ?_, by simp; exact h.few, ?_⟩
  · rcases List.mem_append.1 hy with hy | hy
    · exact h.may y hy
    · rw [List.mem_singleton.1 hy]; exact wrWN_zero hn
  · rw [List.pairwise_append]
    refine ⟨h.up, by simp, fun a ha b hbm => ?_⟩
    rw [List.mem_singleton.1 hbm]
    cases hl : g.getLast? with
    | none => rw [List.getLast?_eq_none_iff.1 hl] at ha; cases ha
    | some y =>
      rw [behW_last x hl] at hb
      have hyx : y.idx < x.idx := of_decide_eq_true hb
      obtain ⟨g', rfl⟩ : ∃ g', g = g' ++ [y] := by
        obtain ⟨h1, h2⟩ := List.getLast?_eq_some_iff.1 hl
        exact ⟨h1, h2⟩
      rcases List.mem_append.1 ha with ha | ha
      · have := (List.pairwise_append.1 h.up).2.2 a ha y (by simp)
        omega
      · rw [List.mem_singleton.1 ha]; exact hyx
  · rw [wtB_take hx]
    have := h.sum
    have e : wtB (g ++ [x]) = wtB g + wt x.es := by simp [wtB]
    rw [e]
    omega
theorem logW_len {g : List Bat} (h : ∀ x ∈ g, mayW x = true ∧ mayF (payB x).length = true) (hw : wtB g ≤ 60000) : (logW g).length ≤ 19 * g.length + 7 * wtB g := by
  have h2 : ∀ x ∈ g, wt x.es ≤ 60000 := fun x hx => Nat.le_trans (wtB_mem hx) hw
  clear hw
  induction g with
  | nil => simp [logW]
  | cons x g ih =>
    have a1 := payB_len (h x (by simp)).1 (h2 x (by simp))
    have a2 := ih (fun y hy => h y (by simp [hy])) (fun y hy => h2 y (by simp [hy]))
    have e : wtB (x :: g) = wt x.es + wtB g := by simp [wtB]
    have e2 : logW (x :: g) = frmB (payB x) ++ logW g := by simp [logW]
    rw [e, e2, List.length_append, List.length_cons, frm_len]
    omega
theorem OwnB.rdB {w : World} {base : Nat} {A : Option Addr} {n c : Nat} {x : Bs} (h : OwnB w base (.slice A n c) x) : Rd w A n x := by
  obtain ⟨A', n', c', e, _, r, _⟩ := h.formN
  cases e
  exact r
/-- The first part of a frame. -/
structure PartR (w : World) (A : Option Addr) (m c : Nat) (r : Bs) : Prop where
  rd : Rd w A m r
  cap : m ≤ c
  no : isF r = false
  odd : 8 ≤ r.length → mayF (nF r) = true ∧ r.length < 8 + nF r
  few : r.length ≤ 430000
/-- A frame, or nothing. -/
structure FrmR (last : Bat) (w : World) (A : Option Addr) (m c : Nat) (y : Bs) : Prop where
  rd : Rd w A m y
  cap : m ≤ c
  frm : 0 < m → mayF (payB last).length = true ∧ y = frmB (payB last)
  few : y.length ≤ 430000
/-- What comes of the first k, in memory. -/
structure TorI (w w4 : World) (l : List Bat) (k : Nat) (g : List Bat) (vb vg : Value) (wr : World) : Prop where
  good : GoodI l k g
  ext : Ext w4 wr
  b : OwnB wr w4.heap.size vb (logW g)
  row : OwnLB (fun h es => RdL w h.A h.n es) wr w4.heap.size vg g
theorem TorI.ext_ {w w4 : World} {l : List Bat} {k : Nat} {g : List Bat} {vb vg : Value} {wr wx : World} (h : TorI w w4 l k g vb vg wr) (e : Ext wr wx) : TorI w w4 l k g vb vg wx :=
  ⟨h.good, h.ext.trans e, h.b.ext e, h.row.ext e⟩
theorem take_mod {z : Int} {N : Nat} (h : 0 ≤ z) (hN : 0 < N) : ∃ m : Nat, Int.tmod z N = m ∧ m < N := by
  obtain ⟨k, rfl⟩ := Int.eq_ofNat_of_zero_le h
  exact ⟨k % N, rfl, Nat.mod_lt _ hN⟩

set_option maxRecDepth 100000 in
set_option maxHeartbeats 8000000 in
theorem torn_walk (A : Option Addr) (n c : Nat) (v : Value) (part : Int) (l : List Bat) (last : Bat) (w : World) (hl : RdLW w A n l) (hnc : n ≤ c) (hv : RdB w v last) (hpt : -9223372036854775808 ≤ part ∧ part ≤ 9223372036854775807) :
    Calls Try.prog 6 #[.slice A n c, v, .int .i64 part] w fun e w' => e = .returned (.bool true) ∧ Ext w w' := by
  obtain ⟨A', n', c', rfl, hl2, hc2⟩ := hv
  have hb := heap_alloc_new w (.cells #[.int .i64 last.idx, .slice A' n' c'] 24)
  obtain ⟨q0, q1, _, _⟩ := box2 hb (Ext.rfl_ _)
  have HS : Hid (∀ W, Ext (w.alloc (.cells #[.int .i64 last.idx, .slice A' n' c'] 24)) W → W.cell? ⟨w.heap.size, 0, none⟩ = some (.int .i64 last.idx) ∧ W.cell? ⟨w.heap.size, 1, none⟩ = some (.slice A' n' c')) := Lib.hid fun W K =>
    ⟨K.keeps _ _ _ q0, K.keeps _ _ _ q1⟩
  have HL := Lib.hid hl
  have HL2 := Lib.hid hl2
  have hnB := hl.2.1
  unfold B47 at hnB
  clear hl hl2 hb q0 q1
  go_enter Try.func6, Try.ntmps6
  go_wp2_with fail
  refine (known_any _).mono ?_
  rintro e w1 ⟨rfl, hw1⟩
  have X1 := Lib.hid hw1
  have XW1 := Lib.hid ((Ext.alloc (Ext.rfl_ w) (.cells #[.int .i64 last.idx, .slice A' n' c'] 24)).trans hw1)
  clear hw1
  go_wp2_with fail
  refine (much_any A n c l _ (HL.out.ext (XW1.out.trans (by with_reducible (repeat (first | exact Ext.rfl_ _ | assumption | refine Ext.drew ?_ | refine Ext.drewN ?_ _ | refine Ext.alloc ?_ _ | refine Ext.trans ?_ (by assumption))))))).mono ?_
  rintro e w2 ⟨⟨r, rfl, hr⟩, hw2⟩
  have X2 := Lib.hid (X1.out.trans hw2)
  have XW2 := Lib.hid (XW1.out.trans hw2)
  clear hw2 XW1
  cases r with
  | true =>
    clear hr
    go_wp2
    go_ret
    exact ⟨rfl, XW2.out⟩
  | false =>
    obtain ⟨h100, hwt⟩ := hr rfl
    have HWT := Lib.hid hwt
    clear hr hwt h100
    by_cases h40 : (40 : Int) < (n : Int)
    · have d40 : decide ((40 : Int) < (n : Int)) = true := decide_eq_true h40
      have d40' : decide (40 < n) = true := decide_eq_true (by omega)
      go_wp2
      go_ret
      exact ⟨rfl, XW2.out⟩
    · have d40 : decide ((40 : Int) < (n : Int)) = false := decide_eq_false h40
      have d40' : decide (40 < n) = false := decide_eq_false (by omega)
      obtain ⟨e0, e1⟩ := HS.out _ X2.out
      go_wp2_with fail
      refine (much_any _ _ _ [last] _ ?_).mono ?_
      · exact (RdLB.one (heap_alloc_new _ _) (HL2.out.ext (XW2.out.trans (by with_reducible (repeat (first | exact Ext.rfl_ _ | assumption | refine Ext.drew ?_ | refine Ext.drewN ?_ _ | refine Ext.alloc ?_ _ | refine Ext.trans ?_ (by assumption)))))) hc2).wide
      rintro e w3 ⟨⟨r, rfl, hr⟩, hw3⟩
      have X3 := Lib.hid (X2.out.trans (show Ext w2 w3 from Ext.trans (by with_reducible (repeat (first | exact Ext.rfl_ _ | assumption | refine Ext.drew ?_ | refine Ext.drewN ?_ _ | refine Ext.alloc ?_ _ | refine Ext.trans ?_ (by assumption)))) hw3))
      have XW3 := Lib.hid (XW2.out.trans (show Ext w2 w3 from Ext.trans (by with_reducible (repeat (first | exact Ext.rfl_ _ | assumption | refine Ext.drew ?_ | refine Ext.drewN ?_ _ | refine Ext.alloc ?_ _ | refine Ext.trans ?_ (by assumption)))) hw3))
      clear hw3 e0 e1
      cases r with
      | true =>
        clear hr
        go_wp2
        go_ret
        exact ⟨rfl, XW3.out⟩
      | false =>
        obtain ⟨_, hwt⟩ := hr rfl
        rw [wtB_one] at hwt
        have HWT2 := Lib.hid hwt
        clear hr hwt
        by_cases hp : part < 0
        · have dp : decide (part < 0) = true := decide_eq_true hp
          go_wp2
          go_ret
          exact ⟨rfl, XW3.out⟩
        · have dp : decide (part < 0) = false := decide_eq_false hp
          go_wp2
          go_loopw [7, 8, 9] (fun vb vg i wr => ∃ (k : Nat) (g : List Bat) (ub ug : Value), vb = ub ∧ vg = ug ∧ i = .int .i64 k ∧ k ≤ n ∧ Hid (TorI w w3 l k g ub ug wr)) (fun _ _ i _ => n - (intOf i).toNat)
          case atStart => exact ⟨0, [], _, _, rfl, rfl, rfl, Nat.zero_le _, Lib.hid ⟨GoodI.start _, Ext.rfl_ _, OwnB.nil _ _, OwnLB.nil _ _ _⟩⟩
          case round =>
            obtain ⟨k, g, ub, ug, rfl, rfl, rfl, hk, HI⟩ := hrel
            by_cases hlt : k < n
            · have hltI : (k : Int) < (n : Int) := by omega
              obtain ⟨b0, o0, A1, n1, c1, x, rfl, hx, q0, q1, hrx, hc1⟩ := HL.out.at_ k hlt
              have XWR := Lib.hid (XW3.out.trans HI.out.ext)
              have HX := Lib.hid hx
              have HRX := Lib.hid hrx
              have HSX : Hid (∀ W, Ext wr W → W.cell? ⟨b0, o0 + k * 2, none⟩ = some (.int .i64 x.idx) ∧ W.cell? ⟨b0, o0 + k * 2 + 1, none⟩ = some (.slice A1 n1 c1)) := Lib.hid fun W K => ⟨(XWR.out.trans K).keeps _ _ _ q0, (XWR.out.trans K).keeps _ _ _ q1⟩
              have hgk : g.length ≤ 40 := by have := HI.out.good.few; omega
              clear q0 q1 hx hrx
              go_upto_region 10 with (fail)
              go_cut [58] from 35 to 79 (fun p wx => p = .bool (!behW g x) ∧ Ext wr wx)
              case first =>
                obtain ⟨e0, e1⟩ := HSX.out _ (Ext.rfl_ _)
                cases hgl : g.getLast? with
                | none =>
                  obtain rfl : g = [] := List.getLast?_eq_none_iff.1 hgl
                  obtain ⟨A8, n8, c8, rfl, _, hr8⟩ := HI.out.row.formN (fun a b h => h.ext XWR.out) (by decide)
                  obtain rfl : n8 = 0 := hr8.1.symm
                  clear hr8 hgl
                  go_wp2
                  go_quiet (fail)
                  go_wp2
                  go_meet
                  exact ⟨rfl, (by with_reducible (repeat (first | exact Ext.rfl_ _ | assumption | refine Ext.drew ?_ | refine Ext.drewN ?_ _ | refine Ext.alloc ?_ _ | refine Ext.trans ?_ (by assumption))))⟩
                | some z =>
                  have hbl := behW_last x hgl
                  obtain ⟨gg, cl2, rfl, hgb, hcl2, hpos, hcz⟩ := OwnLB.lastB HI.out.row hgl
                  have hwr1 : IntKind.i64.wrap ((g.length : Int) - 1) = ((g.length - 1 : Nat) : Int) := by rw [IntKind.wrap_i64]; omega
                  have hwr2 : wrap64 ((g.length : Int) - 1) = ((g.length - 1 : Nat) : Int) := by unfold wrap64; omega
                  have hlt3 : ((g.length - 1 : Nat) : Int) < (g.length : Int) := by omega
                  have hp0 : decide ((0 : Int) < (g.length : Int)) = true := decide_eq_true (by omega)
                  have hp0' : decide (0 < g.length) = true := decide_eq_true hpos
                  clear hgl
                  by_cases hge : x.idx ≤ z.idx
                  · have hgd : decide (x.idx ≤ z.idx) = true := decide_eq_true hge
                    have HBL : Hid (true = !behW g x) := Lib.hid (by rw [hbl, decide_eq_false (by omega)]; rfl)
                    clear hge hbl
                    go_wp2
                    go_quiet (fail)
                    go_wp2
                    go_meet
                    exact ⟨congrArg Value.bool HBL.out, (by with_reducible (repeat (first | exact Ext.rfl_ _ | assumption | refine Ext.drew ?_ | refine Ext.drewN ?_ _ | refine Ext.alloc ?_ _ | refine Ext.trans ?_ (by assumption))))⟩
                  · have hgd : decide (x.idx ≤ z.idx) = false := decide_eq_false hge
                    have HBL : Hid (false = !behW g x) := Lib.hid (by rw [hbl, decide_eq_true (by omega)]; rfl)
                    clear hge hbl
                    go_wp2
                    go_quiet (fail)
                    go_wp2
                    go_meet
                    exact ⟨congrArg Value.bool HBL.out, (by with_reducible (repeat (first | exact Ext.rfl_ _ | assumption | refine Ext.drew ?_ | refine Ext.drewN ?_ _ | refine Ext.alloc ?_ _ | refine Ext.trans ?_ (by assumption))))⟩
              case rest =>
                obtain ⟨rfl, hxc⟩ := hcut
                have HI2 := Lib.hid (HI.out.ext_ hxc)
                have HXC := Lib.hid hxc
                obtain ⟨bt, hbt⟩ : ∃ t, behW g x = t := ⟨_, rfl⟩
                rw [hbt]
                have HBT := Lib.hid hbt
                obtain ⟨e0, e1⟩ := HSX.out _ hxc
                clear hbt hxc
                cases bt with
                | false =>
                  go_wp2
                  go_roundw
                  case rel => exact ⟨k + 1, g, _, _, rfl, rfl, by go_num, by omega, Lib.hid (by have h := HI2.out.ext_ (wx := _) (by with_reducible (repeat (first | exact Ext.rfl_ _ | assumption | refine Ext.drew ?_ | refine Ext.drewN ?_ _ | refine Ext.alloc ?_ _ | refine Ext.trans ?_ (by assumption)))); exact ⟨h.good.skip HX.out, h.ext, h.b, h.row⟩)⟩
                  case measure => simp [intOf]; omega
                | true =>
                  go_wp2_with fail
                  refine (wput_any _ x _ ⟨A1, n1, c1, rfl, HRX.out.ext ((XWR.out.trans HXC.out).trans (by with_reducible (repeat (first | exact Ext.rfl_ _ | assumption | refine Ext.drew ?_ | refine Ext.drewN ?_ _ | refine Ext.alloc ?_ _ | refine Ext.trans ?_ (by assumption))))), hc1⟩).mono ?_
                  rintro e w5 ⟨v5, rfl, o5, hw5⟩
                  obtain ⟨A5, n5, c5, rfl, l5, _, _⟩ := o5.formN
                  have O5 := Lib.hid o5
                  have X5 := Lib.hid (HXC.out.trans hw5)
                  have HI5 := Lib.hid (HI2.out.ext_ hw5)
                  clear o5 hw5 HI2 e0 e1
                  obtain ⟨wN, hwN⟩ : ∃ z, z = wrWN x := ⟨_, rfl⟩
                  rw [← hwN]
                  have HWN := Lib.hid hwN
                  clear hwN
                  obtain ⟨e0, e1⟩ := HSX.out _ X5.out
                  by_cases h0 : wN = 0
                  · subst h0
                    have HG := Lib.hid (HI5.out.good.add HX.out HBT.out HWN.out.symm)
                    have hw0 : wrW x = frmB (payB x) := if_pos (wrWN_zero HWN.out.symm)
                    have HLG : Hid (logW g ++ wrW x = logW (g ++ [x])) := Lib.hid (by rw [logW_snoc, hw0])
                    have HSZ : Hid ((logW g).length + (wrW x).length ≤ B47) := Lib.hid (by
                      have a1 := logW_len HG.out.may (by have := HG.out.sum; have := HWT.out; have := wtB_take_le l (k + 1); omega)
                      have a2 := HG.out.few
                      have a3 : wtB (g ++ [x]) ≤ 60000 := by have := HG.out.sum; have := HWT.out; have := wtB_take_le l (k + 1); omega
                      rw [← HLG.out, List.length_append] at a1
                      unfold B47
                      omega)
                    clear hw0
                    go_wp2_with (first | (go_at_call 16; refine (num_any _ _).mono ?_; rintro e wn ⟨rfl, rfl⟩) | (at_builtin; refine wp_appLB rfl _ _ rfl w3.heap.size _ g rfl (HI5.out.row.ext (by with_reducible (repeat (first | exact Ext.rfl_ _ | assumption | refine Ext.drew ?_ | refine Ext.drewN ?_ _ | refine Ext.alloc ?_ _ | refine Ext.trans ?_ (by assumption))))) w5 24 ⟨A1, n1, c1⟩ x rfl HRX.out hc1 _ rfl rfl (by omega) (HI5.out.ext.trans (show Ext w5 _ from (by with_reducible (repeat (first | exact Ext.rfl_ _ | assumption | refine Ext.drew ?_ | refine Ext.drewN ?_ _ | refine Ext.alloc ?_ _ | refine Ext.trans ?_ (by assumption)))))).size ?_; intro v6 w6 o6 k6 g6; have O6 := Lib.hid o6; have HB6 := Lib.hid ((HI5.out.b.ext (show Ext w5 _ from Ext.alloc (Ext.rfl_ _) _)).kx k6 (by decide)); have X6 := Lib.hid (show Ext w3 w6 from (HI5.out.ext.trans (show Ext w5 _ from Ext.alloc (Ext.rfl_ _) _)).grown g6 (fun q e => (OwnLB.row HI5.out.row q e).1)); have HB5 := Lib.hid ((O5.out.ext (show Ext w5 _ from Ext.alloc (Ext.rfl_ _) _)).kx k6 (by decide)).rdB; clear o6 k6 g6) | (at_builtin; refine wp_app rfl _ _ rfl w3.heap.size _ (logW g) rfl HB6.out A5 n5 c5 (wrW x) rfl HB5.out HSZ.out X6.out.size ?_; intro v7 w7 o7 g7; have O7 := Lib.hid (show OwnB w7 w3.heap.size v7 (logW (g ++ [x])) from HLG.out ▸ o7); have O67 := Lib.hid (O6.out.kx (Kx.of_row g7 HB6.out.out) (by decide)); have X7 := Lib.hid (show Ext w3 w7 from Ext.growBy X6.out g7 HB6.out (Nat.le_refl _)); clear o7 g7))
                    go_roundw
                    case rel => exact ⟨k + 1, g ++ [x], _, _, rfl, rfl, by go_num, by omega, Lib.hid ⟨HG.out, X7.out, O7.out, O67.out⟩⟩
                    case measure => simp [intOf]; omega
                  · have h0b : decide (wN = 0) = false := decide_eq_false h0
                    go_wp2_with (first | (go_at_call 16; refine (num_any _ _).mono ?_; rintro e wn ⟨rfl, rfl⟩))
                    go_roundw
                    case rel => exact ⟨k + 1, g, _, _, rfl, rfl, by go_num, by omega, Lib.hid (by have h := HI5.out.ext_ (wx := _) (by with_reducible (repeat (first | exact Ext.rfl_ _ | assumption | refine Ext.drew ?_ | refine Ext.drewN ?_ _ | refine Ext.alloc ?_ _ | refine Ext.trans ?_ (by assumption)))); exact ⟨h.good.skip HX.out, h.ext, h.b, h.row⟩)⟩
                    case measure => simp [intOf]; omega
            · have hkn : k = n := by omega
              obtain ⟨e0, e1⟩ := HS.out _ (X3.out.trans HI.out.ext)
              have XR := Lib.hid (XW3.out.trans HI.out.ext)
              have hgw : wtB g ≤ 60000 := by have := HI.out.good.sum; have := HWT.out; have := wtB_take_le l k; omega
              have hgl : (logW g).length ≤ 430000 := by have := logW_len HI.out.good.may hgw; have := HI.out.good.few; omega
              have HGL := Lib.hid hgl
              clear hgw hgl
              go_wp2_with fail
              refine (wput_any _ last _ ⟨A', n', c', rfl, HL2.out.ext (XR.out.trans (by with_reducible (repeat (first | exact Ext.rfl_ _ | assumption | refine Ext.drew ?_ | refine Ext.drewN ?_ _ | refine Ext.alloc ?_ _ | refine Ext.trans ?_ (by assumption))))), hc2⟩).mono ?_
              rintro e w5 ⟨v5, rfl, o5, hw5⟩
              have HWL := Lib.hid (wrW_len (x := last) HWT2.out)
              obtain ⟨A5, n5, c5, rfl, l5, r5, _⟩ := o5.formN
              have R5 := Lib.hid r5
              have X5 := Lib.hid (XR.out.trans hw5)
              have HI5 := Lib.hid (HI.out.ext_ hw5)
              clear o5 r5 hw5 e0 e1
              obtain ⟨wN, hwN⟩ : ∃ z, z = wrWN last := ⟨_, rfl⟩
              rw [← hwN]
              have HWN := Lib.hid hwN
              clear hwN
              go_upto_if 87 with (first | (go_at_call 16; refine (num_any _ _).mono ?_; rintro e wn ⟨rfl, rfl⟩))
              go_cut [12] from 88 (fun p wx => ∃ A6 m c6 y, p = .slice A6 m c6 ∧ FrmR last wx A6 m c6 y ∧ Ext w5 wx)
              case first =>
                by_cases h0 : wN = 0
                · subst h0
                  obtain ⟨hm1, hm2⟩ := wrWN_zero HWN.out.symm
                  have hw0 : wrW last = frmB (payB last) := if_pos ⟨hm1, hm2⟩
                  have HPR : Hid (FrmR last w5 A5 n5 c5 (wrW last)) := Lib.hid ⟨R5.out, l5, fun _ => ⟨hm2, hw0⟩, by have := HWL.out; have := HWT2.out; omega⟩
                  clear hw0 hm1 hm2
                  go_wp2
                  go_meet
                  exact ⟨_, _, _, _, rfl, HPR.out, (by with_reducible (repeat (first | exact Ext.rfl_ _ | assumption | refine Ext.drew ?_ | refine Ext.drewN ?_ _ | refine Ext.alloc ?_ _ | refine Ext.trans ?_ (by assumption))))⟩
                · have h0b : (wN != 0) = true := by simp [h0]
                  go_wp2
                  go_meet
                  exact ⟨none, 0, 0, [], rfl, ⟨Rd.nil _ _, Nat.le_refl _, fun h => absurd h (by decide), by simp⟩, (by with_reducible (repeat (first | exact Ext.rfl_ _ | assumption | refine Ext.drew ?_ | refine Ext.drewN ?_ _ | refine Ext.alloc ?_ _ | refine Ext.trans ?_ (by assumption))))⟩
              case rest =>
                obtain ⟨A6, m6, c6, y6, rfl, hf6, hx6⟩ := hcut
                have HF6 := Lib.hid hf6
                have X6 := Lib.hid hx6
                clear hf6 hx6
                go_upto_if 90 with (fail)
                go_cut [12] from 91 (fun p wx => ∃ A6 m c6 r, p = .slice A6 m c6 ∧ PartR wx A6 m c6 r ∧ Ext w5 wx)
                case first =>
                  by_cases hpos : 0 < m6
                  · obtain ⟨m, hm, hmn⟩ := take_mod (z := part) (N := m6) (by omega) hpos
                    have HPR : Hid (PartR wc A6 m c6 (y6.take m)) := Lib.hid (by
                      obtain ⟨hm2, hy⟩ := HF6.out.frm hpos
                      have hml := HF6.out.rd.1
                      obtain ⟨b6, o6, rfl, _⟩ := HF6.out.rd.2 hpos
                      have hr := HF6.out.rd.front m (by omega)
                      have hp := isF_part (p := payB last) (k := m) hm2 (by rw [← hy]; omega)
                      have hfew := HF6.out.few
                      have hcap := HF6.out.cap
                      subst hy
                      exact ⟨hr, by omega, hp.1, hp.2, by rw [List.length_take]; omega⟩)
                    have d1 : decide ((0 : Int) < (m6 : Int)) = true := decide_eq_true (by omega)
                    have d2 : decide (0 < m6) = true := decide_eq_true hpos
                    have d3 : ((m6 : Int) == 0) = false := by simp; omega
                    have hcap := HF6.out.cap
                    have hmI : (m : Int) ≤ (c6 : Int) := by omega
                    go_wp2
                    go_meet
                    exact ⟨A6, m, c6, _, rfl, HPR.out, X6.out⟩
                  · obtain rfl : m6 = 0 := by omega
                    go_wp2
                    go_meet
                    exact ⟨A6, 0, c6, [], rfl, ⟨Rd.nil _ _, Nat.zero_le _, by decide, fun h => absurd h (by decide), by simp⟩, X6.out⟩
                case rest =>
                  obtain ⟨A7, m7, c7, r7, rfl, hp7, hx7⟩ := hcut
                  have HT := Lib.hid (log_torn HI.out.good.may HI.out.good.up hp7.no hp7.odd)
                  have HR7 := Lib.hid hp7.rd
                  have hfew : r7.length ≤ 430000 := hp7.few
                  have HI7 := Lib.hid (HI5.out.ext_ hx7)
                  have X7 := Lib.hid (X5.out.trans hx7)
                  have hgl := HGL.out
                  obtain ⟨Ab, nb, cb, rfl, lb, rb, _⟩ := HI7.out.b.formN
                  have hnb : nb = (logW g).length := rb.1.symm
                  subst hnb
                  have RB := Lib.hid rb
                  have hgl2 : g.length ≤ 40 := by have := HI.out.good.few; omega
                  obtain ⟨Ag, ng, cg, rfl, lg, rg⟩ := HI7.out.row.formN (fun a b h => h.ext X7.out) (by unfold B41; omega)
                  have RG := Lib.hid rg
                  have HSZ1 : Hid (([] : Bs).length + (logW g).length ≤ B47) := Lib.hid (by unfold B47; simp; omega)
                  have HSZ2 : Hid ((logW g).length + r7.length ≤ B47) := Lib.hid (by unfold B47; omega)
                  have hsz3 : (logW g).length + r7.length ≤ 1000000 := by omega
                  have HSZ3 := Lib.hid hsz3
                  clear hp7 hx7 rb rg hgl hfew hgl2 hsz3
                  go_wp2_with (first | (at_builtin; refine wp_app rfl _ _ rfl wc.heap.size _ [] rfl (OwnB.nil _ _) Ab (logW g).length cb (logW g) rfl RB.out HSZ1.out (Nat.le_refl _) ?_; intro v8 w8 o8 g8; rw [List.nil_append] at o8; have Z8 := Lib.hid ((Ext.rfl_ wc).growBy g8 (OwnB.nil wc wc.heap.size) (Nat.le_refl _)); have O8 := Lib.hid o8; clear o8 g8) | (at_builtin; refine wp_app rfl _ _ rfl wc.heap.size _ (logW g) rfl O8.out A7 m7 c7 r7 rfl (HR7.out.ext Z8.out) HSZ2.out Z8.out.size ?_; intro v9 w9 o9 g9; have Z9 := Lib.hid (Z8.out.growBy g9 O8.out (Nat.le_refl _)); obtain ⟨A9, n9, c9, rfl, l9, r9, _⟩ := o9.formN; have R9 := Lib.hid r9; clear o9 g9 r9))
                  refine (wbatches_any A9 n9 c9 (logW g ++ r7) _ R9.out l9 (by rw [← R9.out.1, List.length_append]; exact HSZ3.out)).mono ?_
                  rintro e w10 ⟨vl, rfl, o10, hw10⟩
                  have ht := HT.out
                  change batW (logW g ++ r7) = g ∧ okW (logW g ++ r7) = true ∧ sizeW (logW g ++ r7) = (logW g).length at ht
                  rw [ht.1] at o10
                  rw [ht.2.1, ht.2.2]
                  obtain ⟨Al, nl, cl, rfl, hcl, hrl⟩ := o10.formN (by have := HI.out.good.few; unfold B41; omega)
                  have HRL := Lib.hid hrl
                  have X10 := Lib.hid (Z9.out.trans hw10)
                  clear o10 hrl hw10 ht
                  go_wp2_with fail
                  refine (rsame13_any Al nl cl Ag ng cg g g _ HRL.out (RG.out.ext X10.out)).mono ?_
                  rintro e w11 ⟨rfl, hw11⟩
                  rw [decide_eq_true rfl]
                  go_wp2
                  go_ret
                  exact ⟨rfl, X7.out.trans (X10.out.trans hw11)⟩

end Go.Proofs.Ythdahmicjlplcaa
