/- The walk of WalPuts; contract of the reference's CopyList. Conditions: the batch reads. -/
import Derived.Test.YthdahmicjlplcaaBatK
import Derived.Test.YthdahmicjlplcaaBatC
import Derived.Test.YthdahmicjlplcaaCopyF
import Derived.Deep.Cut
import Derived.Deep.CutRange
namespace Go.Proofs.Ythdahmicjlplcaa
set_option linter.unusedSimpArgs false
set_option linter.unusedVariables false
open Go.RowKit

theorem frE_cells {w : World} {base : Nat} {v : Value} {x : Ent} (h : FrE w base v x) : ∃ A n c B m d, v = .agg #[.slice A n c, .int .i64 x.seq, .int .i64 x.kind, .slice B m d] ∧ FrE w base (.agg (cellsE ⟨A, n, c, B, m, d⟩ x).toArray) x := by
  have h' := h
  obtain ⟨A, n, c, B, m, d, rfl, _⟩ := h
  exact ⟨A, n, c, B, m, d, rfl, h'⟩
set_option maxRecDepth 100000 in
set_option maxHeartbeats 2000000 in
theorem rcopyL_any (A : Option Addr) (n c : Nat) (xs : List Ent) (w : World) (hl : RdL w A n xs) (hnc : n ≤ c) (hn : n ≤ 1000000) :
    Calls Try.prog 11 #[.slice A n c] w fun e w' => ∃ v', e = .returned v' ∧ OwnF w' w.heap.size v' xs ∧ Ext w w' := by
  have HL := Lib.hid hl
  have hxl := hl.1
  clear hl
  go_enter Try.func11, Try.ntmps11
  go_wp2
  go_loopw [3, 4] (fun v i wr => ∃ k : Nat, k ≤ n ∧ i = .int .i64 k ∧ Ext w wr ∧ OwnF wr w.heap.size v (xs.take k)) (fun _ i _ => n - (intOf i).toNat)
  case atStart => exact ⟨0, Nat.zero_le _, rfl, Ext.rfl_ _, OwnF.nil _ _⟩
  case round =>
    obtain ⟨k, hk, rfl, hX, hF⟩ := hrel
    have HX := Lib.hid hX
    have HF := Lib.hid hF
    clear hX hF
    by_cases hlt : k < n
    · have hltI : (k : Int) < (n : Int) := by omega
      have hncI : (n : Int) ≤ (c : Int) := by omega
      obtain ⟨b, o, A1, n1, c1, A2, n2, c2, x, rfl, hx, ⟨d0, d1, d2, d3⟩, hry⟩ := HL.out.at_ k hlt
      have e0 := HX.out.keeps _ _ _ d0
      have e1 := HX.out.keeps _ _ _ d1
      have e2 := HX.out.keeps _ _ _ d2
      have e3 := HX.out.keeps _ _ _ d3
      have HR := Lib.hid (hry.ext HX.out)
      have HTK : Hid (xs.take (k + 1) = xs.take k ++ [x]) := Lib.hid (by rw [List.take_add_one, hx]; rfl)
      clear hry d0 d1 d2 d3 hx
      go_wp2_with fail
      refine (rcopy_any _ x _ HR.out).mono ?_
      rintro e w1 ⟨v1, rfl, hf1, hw1⟩
      obtain ⟨A5, n5, c5, B5, m5, d5, rfl, hfe⟩ := frE_cells hf1
      have HFE := Lib.hid (hfe.low (Ext.size HX.out))
      have X1 := Lib.hid (HX.out.trans hw1)
      have HF1 := Lib.hid (HF.out.ext hw1)
      clear hf1 hfe hw1 e0 e1 e2 e3
      go_wp2_with (first | (at_builtin; refine wp_appF rfl _ _ rfl w.heap.size _ (xs.take k) rfl w1 47 ⟨A5, n5, c5, B5, m5, d5⟩ x rfl HF1.out HFE.out _ rfl rfl (by rw [List.length_take]; omega) (Ext.size X1.out) ?_; intro v2 w2 o2 k2 g2; have Z2 := Lib.hid (Ext.grown (X1.out.trans (Ext.alloc (Ext.rfl_ w1) _)) g2 (fun q hq => (HF1.out.lt q hq).1)); have O2 := Lib.hid o2; clear o2 k2 g2))
      go_roundw
      case rel =>
        refine ⟨k + 1, by omega, by go_num, Z2.out, ?_⟩
        rw [HTK.out]; exact O2.out
      case measure => simp [intOf]; omega
    · obtain rfl : k = n := by omega
      have htk : xs.take k = xs := List.take_of_length_le (by omega)
      rw [htk] at HF
      go_wp2
      go_ret
      exact ⟨_, rfl, HF.out, HX.out⟩

theorem two_put {w : World} {g : Nat} {t : TypeId} {a b : Value} (hk : w.heap[g]? = some (.cells #[a, b] t (0, 0))) (u1 u2 : Value) :
    ((w.setCell ⟨g, 0, none⟩ u1).setCell ⟨g, 1, none⟩ u2).heap[g]? = some (.cells #[u1, u2] t (0, 0)) := by
  simp [World.setCell, Array.getElem?_modify, hk]
theorem rd_put {w : World} {base g : Nat} {a b : Value} {A : Option Addr} {n c : Nat} {xs : List Ent} (o : OwnF w base (.slice A n c) xs) (hB : xs.length ≤ B41) (hk : w.heap[g]? = some (.cells #[a, b] 24 (0, 0))) (u1 u2 : Value) :
    RdL ((w.setCell ⟨g, 0, none⟩ u1).setCell ⟨g, 1, none⟩ u2) A n xs := by
  have h1 : (w.setCell ⟨g, 0, none⟩ u1).heap[g]? = some (.cells #[u1, b] 24 (0, 0)) := by simp [World.setCell, Array.getElem?_modify, hk]
  have o2 := o.kx ((Kx.of_set (o := 0) (u := u1) hk).trans (Kx.of_set (o := 1) (u := u2) h1)) (by decide) (by decide)
  obtain ⟨A', n', c', e, _, r, _⟩ := o2.ownL.formN hB
  cases e
  exact r

/-- The batch in memory of its own. -/
structure OwnX (w wx : World) (g : Nat) (A : Option Addr) (n c : Nat) (x : Bat) : Prop where
  blk : wx.heap[g]? = some (.cells #[.int .i64 x.idx, .slice A n c] 24 (0, 0))
  rd : RdL wx A n x.es
  cap : n ≤ c
  ext : Ext w wx

set_option maxRecDepth 100000 in
set_option maxHeartbeats 8000000 in
theorem wputs_walk (u : Value) (x : Bat) (w : World) (hx : RdB w u x) :
    Calls Try.prog 3 #[u] w fun e w' => e = .returned (.bool true) ∧ Ext w w' := by
  obtain ⟨A, n, c, rfl, hl, hc⟩ := hx
  have hb := heap_alloc_new w (.cells #[.int .i64 x.idx, .slice A n c] 24)
  obtain ⟨q0, q1, _, _⟩ := box2 hb (Ext.rfl_ _)
  have hS : ∀ W, Ext (w.alloc (.cells #[.int .i64 x.idx, .slice A n c] 24)) W → W.cell? ⟨w.heap.size, 0, none⟩ = some (.int .i64 x.idx) ∧ W.cell? ⟨w.heap.size, 1, none⟩ = some (.slice A n c) := fun W K =>
    ⟨K.keeps _ _ _ q0, K.keeps _ _ _ q1⟩
  have HS := Lib.hid hS
  have HL := Lib.hid hl
  clear hl hb q0 q1 hS
  go_enter Try.func3, Try.ntmps3
  go_wp2_with fail
  refine (much_any _ _ _ [x] _ ?_).mono ?_
  · exact (RdLB.one (two_new _ _ _).2 (HL.out.ext (by with_reducible (repeat (first | exact Ext.rfl_ _ | assumption | refine Ext.drew ?_ | refine Ext.drewN ?_ _ | refine Ext.alloc ?_ _ | refine Ext.trans ?_ (by assumption))))) hc).wide
  rintro e w2 ⟨⟨r, rfl, hr⟩, hw2⟩
  have X2 : Ext (w.alloc (.cells #[.int .i64 x.idx, .slice A n c] 24)) w2 := Ext.trans (by with_reducible (repeat (first | exact Ext.rfl_ _ | assumption | refine Ext.drew ?_ | refine Ext.drewN ?_ _ | refine Ext.alloc ?_ _ | refine Ext.trans ?_ (by assumption)))) hw2
  have HX2 := Lib.hid X2
  clear hw2 X2
  cases r with
  | true =>
    clear hr
    go_wp2_with fail
    refine (known_any _).mono ?_
    rintro e w9 ⟨rfl, hw9⟩
    go_wp2
    go_ret
    exact ⟨rfl, (Ext.alloc (Ext.rfl_ w) _).trans (HX2.out.trans hw9)⟩
  | false =>
    obtain ⟨_, hwt⟩ := hr rfl
    rw [wtB_one] at hwt
    have HWT := Lib.hid hwt
    have hn : n ≤ 60000 := by have := wt_len x.es; rw [← HL.out.1]; omega
    have XW := Lib.hid ((Ext.alloc (Ext.rfl_ w) (.cells #[.int .i64 x.idx, .slice A n c] 24)).trans HX2.out)
    clear hr hwt
    go_upto_region 3 with (fail)
    go_cut [3] from 6 (fun p wx => ∃ g A4 n4 c4, p = .pointer (some ⟨g, 0, none⟩) ∧ OwnX w2 wx g A4 n4 c4 x)
    case first =>
      go_wp2
      refine wp_region_held_drew (S := (fun W => W.cell? ⟨w.heap.size, 0, none⟩ = some (.int .i64 x.idx) ∧ W.cell? ⟨w.heap.size, 1, none⟩ = some (.slice A n c))) (by kernel_rfl) (by (try dsimp only); exact HS.out _ (HX2.out.trans (by with_reducible (repeat (first | exact Ext.rfl_ _ | assumption | refine Ext.drew ?_ | refine Ext.drewN ?_ _ | refine Ext.alloc ?_ _ | refine Ext.setCell ?_ (by first | (simp; done) | (simp; omega)) _ | refine Ext.trans ?_ (by assumption)))))) (fun hHeld => ?_)
      refine wpAnyH_take (i := 0) (oi := ({ dst := some 10, op := Go.Op.fieldAddr 24 (Go.Operand.tmp 1) 0, type := 0, pos := "law.go:73", after := #[], guard := none } : Go.Oper)) (v := ?v1) rfl (by kernel_rfl) (by kernel_rfl) (by kernel_rfl) (fun _ _ _ h => h) (Or.inl ⟨by rfl, ?hy1⟩) (by assumption) ?rest1
      case hy1 => (intro w hSw; (try dsimp only at hSw); go_simp; (try with_reducible rfl))
      (try simp only [Act.put, List.getElem_toArray, List.getElem_cons_zero, List.getElem_cons_succ, List.setIfInBounds_toArray, List.set_cons_zero, List.set_cons_succ])
      refine wpAnyH_take (i := 1) (oi := ({ dst := some 11, op := Go.Op.load 2 (Go.Operand.tmp 10), type := 2, pos := "law.go:73", after := #[{ on := 0, ground := Go.Ground.data }], guard := none } : Go.Oper)) (v := ?v2) rfl (by kernel_rfl) (by kernel_rfl) (by kernel_rfl) (fun _ _ _ h => h) (Or.inl ⟨by rfl, ?hy2⟩) (by assumption) ?rest2
      case hy2 => (intro w hSw; (try dsimp only at hSw); go_simp; (try with_reducible rfl))
      (try simp only [Act.put, List.getElem_toArray, List.getElem_cons_zero, List.getElem_cons_succ, List.setIfInBounds_toArray, List.set_cons_zero, List.set_cons_succ])
      refine wpAnyH_take (i := 2) (oi := ({ dst := some 12, op := Go.Op.fieldAddr 24 (Go.Operand.tmp 1) 1, type := 0, pos := "law.go:73", after := #[], guard := none } : Go.Oper)) (v := ?v3) rfl (by kernel_rfl) (by kernel_rfl) (by kernel_rfl) (fun _ _ _ h => h) (Or.inl ⟨by rfl, ?hy3⟩) (by assumption) ?rest3
      case hy3 => (intro w hSw; (try dsimp only at hSw); go_simp; (try with_reducible rfl))
      (try simp only [Act.put, List.getElem_toArray, List.getElem_cons_zero, List.getElem_cons_succ, List.setIfInBounds_toArray, List.set_cons_zero, List.set_cons_succ])
      refine wpAnyH_take (i := 3) (oi := ({ dst := some 13, op := Go.Op.load 22 (Go.Operand.tmp 12), type := 22, pos := "law.go:73", after := #[{ on := 2, ground := Go.Ground.data }], guard := none } : Go.Oper)) (v := ?v4) rfl (by kernel_rfl) (by kernel_rfl) (by kernel_rfl) (fun _ _ _ h => h) (Or.inl ⟨by rfl, ?hy4⟩) (by assumption) ?rest4
      case hy4 => (intro w hSw; (try dsimp only at hSw); go_simp; (try with_reducible rfl))
      (try simp only [Act.put, List.getElem_toArray, List.getElem_cons_zero, List.getElem_cons_succ, List.setIfInBounds_toArray, List.set_cons_zero, List.set_cons_succ])
      refine wpAnyH_ready (rs := [4, 6]) (by kernel_rfl) (by simp) ?_
      refine AllReadyH.cons (o := ({ dst := some 14, op := Go.Op.call { callee := Go.Callee.value (Go.Operand.func 11), args := #[Go.Operand.tmp 13], argTypes := #[22] }, type := 22, pos := "law.go:73", after := #[{ on := 3, ground := Go.Ground.data }], guard := none } : Go.Oper)) rfl (fun K hK => ?one5) ?more5
      case' one5 =>
        go_simp
        refine (rcopyL_any A n c x.es _ (HL.out.ext (XW.out.trans (by with_reducible (repeat (first | exact Ext.rfl_ _ | assumption | refine Ext.drew ?_ | refine Ext.drewN ?_ _ | refine Ext.alloc ?_ _ | refine Ext.trans ?_ (by assumption)))))) hc (by omega)).mono ?_; rintro e w4 ⟨v4, rfl, o4, hw4⟩; obtain ⟨A4, n4, c4, rfl, hc4, hr4, _⟩ := o4.ownL.formN (by rw [HL.out.1]; unfold B41; omega); (first | (have hz : Ext (World.drew (w2.alloc (.cells #[.int .i64 0, .slice none 0 0] 24))) w4 := hw4; obtain ⟨z0, z1, y0, y1⟩ := box2 (g := w2.heap.size) (blk1 w2 (.cells #[.int .i64 0, .slice none 0 0] 24)) ((Ext.drew (Ext.rfl_ _)).trans hz); clear hz) | skip)
        (try (go_wp2_with fail))
        refine hK.out _ _ (by (try dsimp only); exact HS.out _ (HX2.out.trans (by with_reducible (repeat (first | exact Ext.rfl_ _ | assumption | refine Ext.drew ?_ | refine Ext.drewN ?_ _ | refine Ext.alloc ?_ _ | refine Ext.setCell ?_ (by first | (simp; done) | (simp; omega)) _ | refine Ext.trans ?_ (by assumption)))))) (fun hHeld => ?_)
        clear hK K
        (try simp only [Act.put, List.getElem_toArray, List.getElem_cons_zero, List.getElem_cons_succ, List.setIfInBounds_toArray, List.set_cons_zero, List.set_cons_succ])
        refine wpAnyH_ready (rs := [5, 6]) (by kernel_rfl) (by simp) ?_
        refine AllReadyH.cons (o := ({ dst := some 15, op := Go.Op.build 24 #[(0, Go.Operand.tmp 11), (1, Go.Operand.tmp 14)], type := 24, pos := "law.go:73", after := #[{ on := 1, ground := Go.Ground.data }, { on := 4, ground := Go.Ground.data }], guard := none } : Go.Oper)) rfl (fun K hK => ?one6) ?more6
        case' one6 =>
          go_simp
          refine hK.out _ _ (by (try dsimp only); exact HS.out _ (HX2.out.trans (by with_reducible (repeat (first | exact Ext.rfl_ _ | assumption | refine Ext.drew ?_ | refine Ext.drewN ?_ _ | refine Ext.alloc ?_ _ | refine Ext.setCell ?_ (by first | (simp; done) | (simp; omega)) _ | refine Ext.trans ?_ (by assumption)))))) (fun hHeld => ?_)
          clear hK K
          (try simp only [Act.put, List.getElem_toArray, List.getElem_cons_zero, List.getElem_cons_succ, List.setIfInBounds_toArray, List.set_cons_zero, List.set_cons_succ])
          refine wpAnyH_ready (rs := [6]) (by kernel_rfl) (by simp) ?_
          refine AllReadyH.cons (o := ({ dst := some 3, op := Go.Op.alloc 24, type := 0, pos := "law.go:73", after := #[], guard := none } : Go.Oper)) rfl (fun K hK => ?_) AllReadyH.nil
          go_simp
          refine hK.out _ _ (by (try dsimp only); exact HS.out _ (HX2.out.trans (by with_reducible (repeat (first | exact Ext.rfl_ _ | assumption | refine Ext.drew ?_ | refine Ext.drewN ?_ _ | refine Ext.alloc ?_ _ | refine Ext.setCell ?_ (by first | (simp; done) | (simp; omega)) _ | refine Ext.trans ?_ (by assumption)))))) (fun hHeld => ?_)
          clear hK K
          (try simp only [Act.put, List.getElem_toArray, List.getElem_cons_zero, List.getElem_cons_succ, List.setIfInBounds_toArray, List.set_cons_zero, List.set_cons_succ])
          refine wpAnyH_ready (rs := [7]) (by kernel_rfl) (by simp) ?_
          refine AllReadyH.cons (o := ({ dst := none, op := Go.Op.store 24 (Go.Operand.tmp 3) (Go.Operand.tmp 15), type := 0, pos := "law.go:73", after := #[{ on := 6, ground := Go.Ground.data }, { on := 5, ground := Go.Ground.data }, { on := 4, ground := Go.Ground.chain }, { on := 0, ground := Go.Ground.phase }, { on := 1, ground := Go.Ground.phase }, { on := 2, ground := Go.Ground.phase }, { on := 3, ground := Go.Ground.phase }, { on := 4, ground := Go.Ground.phase }, { on := 5, ground := Go.Ground.phase }, { on := 6, ground := Go.Ground.phase }], guard := none } : Go.Oper)) rfl (fun K hK => ?_) AllReadyH.nil
          go_simp
          refine hK.out _ _ (by (try dsimp only); exact HS.out _ (HX2.out.trans (by with_reducible (repeat (first | exact Ext.rfl_ _ | assumption | refine Ext.drew ?_ | refine Ext.drewN ?_ _ | refine Ext.alloc ?_ _ | refine Ext.setCell ?_ (by first | (simp; done) | (simp; omega)) _ | refine Ext.trans ?_ (by assumption)))))) (fun hHeld => ?_)
          clear hK K
          (try simp only [Act.put, List.getElem_toArray, List.getElem_cons_zero, List.getElem_cons_succ, List.setIfInBounds_toArray, List.set_cons_zero, List.set_cons_succ])
          refine wpAnyH_done (by kernel_rfl) ?_ _
        case' more6 =>
          refine AllReadyH.cons (o := ({ dst := some 3, op := Go.Op.alloc 24, type := 0, pos := "law.go:73", after := #[], guard := none } : Go.Oper)) rfl (fun K hK => ?_) AllReadyH.nil
          go_simp
          refine hK.out _ _ (by (try dsimp only); exact HS.out _ (HX2.out.trans (by with_reducible (repeat (first | exact Ext.rfl_ _ | assumption | refine Ext.drew ?_ | refine Ext.drewN ?_ _ | refine Ext.alloc ?_ _ | refine Ext.setCell ?_ (by first | (simp; done) | (simp; omega)) _ | refine Ext.trans ?_ (by assumption)))))) (fun hHeld => ?_)
          clear hK K
          (try simp only [Act.put, List.getElem_toArray, List.getElem_cons_zero, List.getElem_cons_succ, List.setIfInBounds_toArray, List.set_cons_zero, List.set_cons_succ])
          refine wpAnyH_ready (rs := [5]) (by kernel_rfl) (by simp) ?_
          refine AllReadyH.cons (o := ({ dst := some 15, op := Go.Op.build 24 #[(0, Go.Operand.tmp 11), (1, Go.Operand.tmp 14)], type := 24, pos := "law.go:73", after := #[{ on := 1, ground := Go.Ground.data }, { on := 4, ground := Go.Ground.data }], guard := none } : Go.Oper)) rfl (fun K hK => ?_) AllReadyH.nil
          go_simp
          refine hK.out _ _ (by (try dsimp only); exact HS.out _ (HX2.out.trans (by with_reducible (repeat (first | exact Ext.rfl_ _ | assumption | refine Ext.drew ?_ | refine Ext.drewN ?_ _ | refine Ext.alloc ?_ _ | refine Ext.setCell ?_ (by first | (simp; done) | (simp; omega)) _ | refine Ext.trans ?_ (by assumption)))))) (fun hHeld => ?_)
          clear hK K
          (try simp only [Act.put, List.getElem_toArray, List.getElem_cons_zero, List.getElem_cons_succ, List.setIfInBounds_toArray, List.set_cons_zero, List.set_cons_succ])
          refine wpAnyH_ready (rs := [7]) (by kernel_rfl) (by simp) ?_
          refine AllReadyH.cons (o := ({ dst := none, op := Go.Op.store 24 (Go.Operand.tmp 3) (Go.Operand.tmp 15), type := 0, pos := "law.go:73", after := #[{ on := 6, ground := Go.Ground.data }, { on := 5, ground := Go.Ground.data }, { on := 4, ground := Go.Ground.chain }, { on := 0, ground := Go.Ground.phase }, { on := 1, ground := Go.Ground.phase }, { on := 2, ground := Go.Ground.phase }, { on := 3, ground := Go.Ground.phase }, { on := 4, ground := Go.Ground.phase }, { on := 5, ground := Go.Ground.phase }, { on := 6, ground := Go.Ground.phase }], guard := none } : Go.Oper)) rfl (fun K hK => ?_) AllReadyH.nil
          go_simp
          refine hK.out _ _ (by (try dsimp only); exact HS.out _ (HX2.out.trans (by with_reducible (repeat (first | exact Ext.rfl_ _ | assumption | refine Ext.drew ?_ | refine Ext.drewN ?_ _ | refine Ext.alloc ?_ _ | refine Ext.setCell ?_ (by first | (simp; done) | (simp; omega)) _ | refine Ext.trans ?_ (by assumption)))))) (fun hHeld => ?_)
          clear hK K
          (try simp only [Act.put, List.getElem_toArray, List.getElem_cons_zero, List.getElem_cons_succ, List.setIfInBounds_toArray, List.set_cons_zero, List.set_cons_succ])
          refine wpAnyH_done (by kernel_rfl) ?_ _
      case' more5 =>
        refine AllReadyH.cons (o := ({ dst := some 3, op := Go.Op.alloc 24, type := 0, pos := "law.go:73", after := #[], guard := none } : Go.Oper)) rfl (fun K hK => ?_) AllReadyH.nil
        go_simp
        refine hK.out _ _ (by (try dsimp only); exact HS.out _ (HX2.out.trans (by with_reducible (repeat (first | exact Ext.rfl_ _ | assumption | refine Ext.drew ?_ | refine Ext.drewN ?_ _ | refine Ext.alloc ?_ _ | refine Ext.setCell ?_ (by first | (simp; done) | (simp; omega)) _ | refine Ext.trans ?_ (by assumption)))))) (fun hHeld => ?_)
        clear hK K
        (try simp only [Act.put, List.getElem_toArray, List.getElem_cons_zero, List.getElem_cons_succ, List.setIfInBounds_toArray, List.set_cons_zero, List.set_cons_succ])
        refine wpAnyH_ready (rs := [4]) (by kernel_rfl) (by simp) ?_
        refine AllReadyH.cons (o := ({ dst := some 14, op := Go.Op.call { callee := Go.Callee.value (Go.Operand.func 11), args := #[Go.Operand.tmp 13], argTypes := #[22] }, type := 22, pos := "law.go:73", after := #[{ on := 3, ground := Go.Ground.data }], guard := none } : Go.Oper)) rfl (fun K hK => ?_) AllReadyH.nil
        go_simp
        refine (rcopyL_any A n c x.es _ (HL.out.ext (XW.out.trans (by with_reducible (repeat (first | exact Ext.rfl_ _ | assumption | refine Ext.drew ?_ | refine Ext.drewN ?_ _ | refine Ext.alloc ?_ _ | refine Ext.trans ?_ (by assumption)))))) hc (by omega)).mono ?_; rintro e w4 ⟨v4, rfl, o4, hw4⟩; obtain ⟨A4, n4, c4, rfl, hc4, hr4, _⟩ := o4.ownL.formN (by rw [HL.out.1]; unfold B41; omega); (first | (have hz : Ext (World.drew (w2.alloc (.cells #[.int .i64 0, .slice none 0 0] 24))) w4 := hw4; obtain ⟨z0, z1, y0, y1⟩ := box2 (g := w2.heap.size) (blk1 w2 (.cells #[.int .i64 0, .slice none 0 0] 24)) ((Ext.drew (Ext.rfl_ _)).trans hz); clear hz) | skip)
        (try (go_wp2_with fail))
        refine hK.out _ _ (by (try dsimp only); exact HS.out _ (HX2.out.trans (by with_reducible (repeat (first | exact Ext.rfl_ _ | assumption | refine Ext.drew ?_ | refine Ext.drewN ?_ _ | refine Ext.alloc ?_ _ | refine Ext.setCell ?_ (by first | (simp; done) | (simp; omega)) _ | refine Ext.trans ?_ (by assumption)))))) (fun hHeld => ?_)
        clear hK K
        (try simp only [Act.put, List.getElem_toArray, List.getElem_cons_zero, List.getElem_cons_succ, List.setIfInBounds_toArray, List.set_cons_zero, List.set_cons_succ])
        refine wpAnyH_ready (rs := [5]) (by kernel_rfl) (by simp) ?_
        refine AllReadyH.cons (o := ({ dst := some 15, op := Go.Op.build 24 #[(0, Go.Operand.tmp 11), (1, Go.Operand.tmp 14)], type := 24, pos := "law.go:73", after := #[{ on := 1, ground := Go.Ground.data }, { on := 4, ground := Go.Ground.data }], guard := none } : Go.Oper)) rfl (fun K hK => ?_) AllReadyH.nil
        go_simp
        refine hK.out _ _ (by (try dsimp only); exact HS.out _ (HX2.out.trans (by with_reducible (repeat (first | exact Ext.rfl_ _ | assumption | refine Ext.drew ?_ | refine Ext.drewN ?_ _ | refine Ext.alloc ?_ _ | refine Ext.setCell ?_ (by first | (simp; done) | (simp; omega)) _ | refine Ext.trans ?_ (by assumption)))))) (fun hHeld => ?_)
        clear hK K
        (try simp only [Act.put, List.getElem_toArray, List.getElem_cons_zero, List.getElem_cons_succ, List.setIfInBounds_toArray, List.set_cons_zero, List.set_cons_succ])
        refine wpAnyH_ready (rs := [7]) (by kernel_rfl) (by simp) ?_
        refine AllReadyH.cons (o := ({ dst := none, op := Go.Op.store 24 (Go.Operand.tmp 3) (Go.Operand.tmp 15), type := 0, pos := "law.go:73", after := #[{ on := 6, ground := Go.Ground.data }, { on := 5, ground := Go.Ground.data }, { on := 4, ground := Go.Ground.chain }, { on := 0, ground := Go.Ground.phase }, { on := 1, ground := Go.Ground.phase }, { on := 2, ground := Go.Ground.phase }, { on := 3, ground := Go.Ground.phase }, { on := 4, ground := Go.Ground.phase }, { on := 5, ground := Go.Ground.phase }, { on := 6, ground := Go.Ground.phase }], guard := none } : Go.Oper)) rfl (fun K hK => ?_) AllReadyH.nil
        go_simp
        refine hK.out _ _ (by (try dsimp only); exact HS.out _ (HX2.out.trans (by with_reducible (repeat (first | exact Ext.rfl_ _ | assumption | refine Ext.drew ?_ | refine Ext.drewN ?_ _ | refine Ext.alloc ?_ _ | refine Ext.setCell ?_ (by first | (simp; done) | (simp; omega)) _ | refine Ext.trans ?_ (by assumption)))))) (fun hHeld => ?_)
        clear hK K
        (try simp only [Act.put, List.getElem_toArray, List.getElem_cons_zero, List.getElem_cons_succ, List.setIfInBounds_toArray, List.set_cons_zero, List.set_cons_succ])
        refine wpAnyH_done (by kernel_rfl) ?_ _
      all_goals
        go_wp2
        go_meet
        refine ⟨_, A4, n4, c4, rfl, ?_, ?_, hc4, ?_⟩
        · first | exact two_put (hw4.blk (blk1 w2 _)) _ _ | exact blk1 w4 _
        · first | exact rd_put o4 (by rw [HL.out.1]; unfold B41; omega) (hw4.blk (blk1 w2 _)) _ _ | exact hr4.ext (by with_reducible (repeat (first | exact Ext.rfl_ _ | assumption | refine Ext.drew ?_ | refine Ext.drewN ?_ _ | refine Ext.alloc ?_ _ | refine Ext.trans ?_ (by assumption))))
        · exact (by with_reducible (repeat (first | exact Ext.rfl_ _ | assumption | refine Ext.drew ?_ | refine Ext.drewN ?_ _ | refine Ext.alloc ?_ _ | refine Ext.setCell ?_ (by first | (simp; done) | (simp; omega)) _ | refine Ext.trans ?_ (by assumption))))
    case rest =>
      obtain ⟨g, A4, n4, c4, rfl, hg, hr4, hc4, hx4⟩ := hcut
      obtain ⟨p0, p1, _, _⟩ := box2 hg (Ext.rfl_ _)
      have X4 := Lib.hid (HX2.out.trans hx4)
      have HR4 := Lib.hid hr4
      have HS4 : Hid (∀ W, Ext wc W → (W.cell? ⟨w.heap.size, 0, none⟩ = some (.int .i64 x.idx) ∧ W.cell? ⟨w.heap.size, 1, none⟩ = some (.slice A n c)) ∧ (W.cell? ⟨g, 0, none⟩ = some (.int .i64 x.idx) ∧ W.cell? ⟨g, 1, none⟩ = some (.slice A4 n4 c4))) := Lib.hid fun W K => ⟨HS.out W (X4.out.trans K), K.keeps _ _ _ p0, K.keeps _ _ _ p1⟩
      have HBX : Hid (∀ W, Ext wc W → RdB W (.agg #[.int .i64 x.idx, .slice A n c]) x) := Lib.hid fun W K => ⟨A, n, c, rfl, HL.out.ext ((XW.out.trans hx4).trans K), hc⟩
      have HBY : Hid (∀ W, Ext wc W → RdB W (.agg #[.int .i64 x.idx, .slice A4 n4 c4]) x) := Lib.hid fun W K => ⟨A4, n4, c4, rfl, HR4.out.ext K, hc4⟩
      have XC := Lib.hid (XW.out.trans hx4)
      clear hg hr4 hx4
      go_wp2_with fail
      refine (wput_any _ x _ (HBY.out _ (by with_reducible (repeat (first | exact Ext.rfl_ _ | assumption | refine Ext.drew ?_ | refine Ext.drewN ?_ _ | refine Ext.alloc ?_ _ | refine Ext.trans ?_ (by assumption)))))).mono ?_
      rintro e w5 ⟨v5, rfl, o5, hw5⟩
      obtain ⟨A5, n5, c5, rfl, l5, r5, _⟩ := o5.formN
      have R5 := Lib.hid r5
      have X5 := Lib.hid hw5
      clear o5 r5 hw5 p0 p1
      obtain ⟨wN, hwN⟩ : ∃ z, z = wrWN x := ⟨_, rfl⟩
      rw [← hwN]
      have HWN := Lib.hid hwN
      clear hwN
      obtain ⟨mt, hmt⟩ : ∃ t, mayW x = t := ⟨_, rfl⟩
      have HMT := Lib.hid hmt
      clear hmt
      have hmm : (mt != mt) = false := by simp
      go_upto_region 5 with (fail)
      go_cut [33] from 6 (fun p wx => p = .bool false ∧ Ext w5 wx)
      case first =>
        go_wp2
        refine wp_region_held_drew (S := (fun W => (W.cell? ⟨w.heap.size, 0, none⟩ = some (.int .i64 x.idx) ∧ W.cell? ⟨w.heap.size, 1, none⟩ = some (.slice A n c)) ∧ (W.cell? ⟨g, 0, none⟩ = some (.int .i64 x.idx) ∧ W.cell? ⟨g, 1, none⟩ = some (.slice A4 n4 c4)))) (by kernel_rfl) (by (try dsimp only); exact HS4.out _ (X5.out.trans (by with_reducible (repeat (first | exact Ext.rfl_ _ | assumption | refine Ext.drew ?_ | refine Ext.drewN ?_ _ | refine Ext.alloc ?_ _ | refine Ext.setCell ?_ (by first | (simp; done) | (simp; omega)) _ | refine Ext.trans ?_ (by assumption)))))) (fun hHeld => ?_)
        refine wpAnyH_take (i := 0) (oi := ({ dst := some 21, op := Go.Op.load 24 (Go.Operand.tmp 3), type := 24, pos := "law.go:75", after := #[], guard := none } : Go.Oper)) (v := ?v7) rfl (by kernel_rfl) (by kernel_rfl) (by kernel_rfl) (fun _ _ _ h => h) (Or.inl ⟨by rfl, ?hy7⟩) (by assumption) ?rest7
        case hy7 => (intro w hSw; (try dsimp only at hSw); go_simp; (try with_reducible rfl))
        (try simp only [Act.put, List.getElem_toArray, List.getElem_cons_zero, List.getElem_cons_succ, List.setIfInBounds_toArray, List.set_cons_zero, List.set_cons_succ])
        refine wpAnyH_take (i := 2) (oi := ({ dst := some 23, op := Go.Op.load 24 (Go.Operand.tmp 1), type := 24, pos := "law.go:75", after := #[], guard := none } : Go.Oper)) (v := ?v8) rfl (by kernel_rfl) (by kernel_rfl) (by kernel_rfl) (fun _ _ _ h => h) (Or.inl ⟨by rfl, ?hy8⟩) (by assumption) ?rest8
        case hy8 => (intro w hSw; (try dsimp only at hSw); go_simp; (try with_reducible rfl))
        (try simp only [Act.put, List.getElem_toArray, List.getElem_cons_zero, List.getElem_cons_succ, List.setIfInBounds_toArray, List.set_cons_zero, List.set_cons_succ])
        refine wpAnyH_ready (rs := [1]) (by kernel_rfl) (by simp) ?_
        refine AllReadyH.cons (o := ({ dst := some 22, op := Go.Op.call { callee := Go.Callee.value (Go.Operand.func 13), args := #[Go.Operand.tmp 21], argTypes := #[24] }, type := 4, pos := "law.go:75", after := #[{ on := 0, ground := Go.Ground.data }], guard := none } : Go.Oper)) rfl (fun K hK => ?_) AllReadyH.nil
        go_simp
        (first | (go_at_call 13; go_must (refine (wmay_any _ x _ (HBY.out _ (X5.out.trans (by with_reducible (repeat (first | exact Ext.rfl_ _ | assumption | refine Ext.drew ?_ | refine Ext.drewN ?_ _ | refine Ext.alloc ?_ _ | refine Ext.trans ?_ (by assumption))))))).mono ?_); rintro e w6 ⟨rfl, hw6⟩; rw [HMT.out]) | (go_at_call 14; go_must (refine (rmay13_any _ x _ (HBX.out _ (X5.out.trans (by with_reducible (repeat (first | exact Ext.rfl_ _ | assumption | refine Ext.drew ?_ | refine Ext.drewN ?_ _ | refine Ext.alloc ?_ _ | refine Ext.trans ?_ (by assumption))))))).mono ?_); rintro e w7 ⟨rfl, hw7⟩; rw [HMT.out]) | (go_at_call 15; go_must (refine (rsame13_any _ _ _ _ _ _ [x] [x] _ (RdLB.one (by first | exact heap_alloc_new _ _ | exact (two_new _ _ _).1 | exact (two_new _ _ _).2 | exact hk4 (heap_alloc_new _ _) | exact hk4 (two_new _ _ _).1 | exact hk4 (two_new _ _ _).2 | exact Ext.blk (Ext.alloc (Ext.rfl_ _) _) (hk4 (heap_alloc_new _ _))) (HR4.out.ext (X5.out.trans (by with_reducible (repeat (first | exact Ext.rfl_ _ | assumption | refine Ext.drew ?_ | refine Ext.drewN ?_ _ | refine Ext.alloc ?_ _ | refine Ext.trans ?_ (by assumption)))))) hc4) (RdLB.one (by first | exact heap_alloc_new _ _ | exact (two_new _ _ _).1 | exact (two_new _ _ _).2 | exact hk4 (heap_alloc_new _ _) | exact hk4 (two_new _ _ _).1 | exact hk4 (two_new _ _ _).2 | exact Ext.blk (Ext.alloc (Ext.rfl_ _) _) (hk4 (heap_alloc_new _ _))) (HL.out.ext (XC.out.trans (X5.out.trans (by with_reducible (repeat (first | exact Ext.rfl_ _ | assumption | refine Ext.drew ?_ | refine Ext.drewN ?_ _ | refine Ext.alloc ?_ _ | refine Ext.trans ?_ (by assumption))))))) hc)).mono ?_); rintro e w8 ⟨rfl, hw8⟩; rw [decide_eq_true rfl]))
        (try (go_wp2_with fail))
        refine hK.out _ _ (by (try dsimp only); exact HS4.out _ (X5.out.trans (by with_reducible (repeat (first | exact Ext.rfl_ _ | assumption | refine Ext.drew ?_ | refine Ext.drewN ?_ _ | refine Ext.alloc ?_ _ | refine Ext.setCell ?_ (by first | (simp; done) | (simp; omega)) _ | refine Ext.trans ?_ (by assumption)))))) (fun hHeld => ?_)
        clear hK K
        (try simp only [Act.put, List.getElem_toArray, List.getElem_cons_zero, List.getElem_cons_succ, List.setIfInBounds_toArray, List.set_cons_zero, List.set_cons_succ])
        refine wpAnyH_ready (rs := [3]) (by kernel_rfl) (by simp) ?_
        refine AllReadyH.cons (o := ({ dst := some 24, op := Go.Op.call { callee := Go.Callee.value (Go.Operand.func 14), args := #[Go.Operand.tmp 23], argTypes := #[24] }, type := 4, pos := "law.go:75", after := #[{ on := 2, ground := Go.Ground.data }, { on := 1, ground := Go.Ground.chain }], guard := none } : Go.Oper)) rfl (fun K hK => ?_) AllReadyH.nil
        go_simp
        (first | (go_at_call 13; go_must (refine (wmay_any _ x _ (HBY.out _ (X5.out.trans (by with_reducible (repeat (first | exact Ext.rfl_ _ | assumption | refine Ext.drew ?_ | refine Ext.drewN ?_ _ | refine Ext.alloc ?_ _ | refine Ext.trans ?_ (by assumption))))))).mono ?_); rintro e w6 ⟨rfl, hw6⟩; rw [HMT.out]) | (go_at_call 14; go_must (refine (rmay13_any _ x _ (HBX.out _ (X5.out.trans (by with_reducible (repeat (first | exact Ext.rfl_ _ | assumption | refine Ext.drew ?_ | refine Ext.drewN ?_ _ | refine Ext.alloc ?_ _ | refine Ext.trans ?_ (by assumption))))))).mono ?_); rintro e w7 ⟨rfl, hw7⟩; rw [HMT.out]) | (go_at_call 15; go_must (refine (rsame13_any _ _ _ _ _ _ [x] [x] _ (RdLB.one (by first | exact heap_alloc_new _ _ | exact (two_new _ _ _).1 | exact (two_new _ _ _).2 | exact hk4 (heap_alloc_new _ _) | exact hk4 (two_new _ _ _).1 | exact hk4 (two_new _ _ _).2 | exact Ext.blk (Ext.alloc (Ext.rfl_ _) _) (hk4 (heap_alloc_new _ _))) (HR4.out.ext (X5.out.trans (by with_reducible (repeat (first | exact Ext.rfl_ _ | assumption | refine Ext.drew ?_ | refine Ext.drewN ?_ _ | refine Ext.alloc ?_ _ | refine Ext.trans ?_ (by assumption)))))) hc4) (RdLB.one (by first | exact heap_alloc_new _ _ | exact (two_new _ _ _).1 | exact (two_new _ _ _).2 | exact hk4 (heap_alloc_new _ _) | exact hk4 (two_new _ _ _).1 | exact hk4 (two_new _ _ _).2 | exact Ext.blk (Ext.alloc (Ext.rfl_ _) _) (hk4 (heap_alloc_new _ _))) (HL.out.ext (XC.out.trans (X5.out.trans (by with_reducible (repeat (first | exact Ext.rfl_ _ | assumption | refine Ext.drew ?_ | refine Ext.drewN ?_ _ | refine Ext.alloc ?_ _ | refine Ext.trans ?_ (by assumption))))))) hc)).mono ?_); rintro e w8 ⟨rfl, hw8⟩; rw [decide_eq_true rfl]))
        (try (go_wp2_with fail))
        refine hK.out _ _ (by (try dsimp only); exact HS4.out _ (X5.out.trans (by with_reducible (repeat (first | exact Ext.rfl_ _ | assumption | refine Ext.drew ?_ | refine Ext.drewN ?_ _ | refine Ext.alloc ?_ _ | refine Ext.setCell ?_ (by first | (simp; done) | (simp; omega)) _ | refine Ext.trans ?_ (by assumption)))))) (fun hHeld => ?_)
        clear hK K
        (try simp only [Act.put, List.getElem_toArray, List.getElem_cons_zero, List.getElem_cons_succ, List.setIfInBounds_toArray, List.set_cons_zero, List.set_cons_succ])
        refine wpAnyH_take (i := 4) (oi := ({ dst := some 25, op := Go.Op.binOp Go.BinOp.neq 4 (Go.Operand.tmp 22) (Go.Operand.tmp 24) 4, type := 4, pos := "law.go:75", after := #[{ on := 1, ground := Go.Ground.data }, { on := 3, ground := Go.Ground.data }], guard := none } : Go.Oper)) (v := ?v9) rfl (by kernel_rfl) (by kernel_rfl) (by kernel_rfl) (fun _ _ _ h => h) (Or.inl ⟨by rfl, ?hy9⟩) (by assumption) ?rest9
        case hy9 => (intro w hSw; (try dsimp only at hSw); go_simp; (try with_reducible rfl))
        (try simp only [Act.put, List.getElem_toArray, List.getElem_cons_zero, List.getElem_cons_succ, List.setIfInBounds_toArray, List.set_cons_zero, List.set_cons_succ])
        refine wpAnyH_take (i := 5) (oi := ({ dst := some 26, op := Go.Op.move (Go.Operand.tmp 25), type := 4, pos := "law.go:75", after := #[{ on := 4, ground := Go.Ground.data }, { on := 3, ground := Go.Ground.chain }], guard := none } : Go.Oper)) (v := ?v10) rfl (by kernel_rfl) (by kernel_rfl) (by kernel_rfl) (fun _ _ _ h => h) (Or.inl ⟨by rfl, ?hy10⟩) (by assumption) ?rest10
        case hy10 => (intro w hSw; (try dsimp only at hSw); go_simp; (try with_reducible rfl))
        (try simp only [Act.put, List.getElem_toArray, List.getElem_cons_zero, List.getElem_cons_succ, List.setIfInBounds_toArray, List.set_cons_zero, List.set_cons_succ])
        refine wpAnyH_take (i := 6) (oi := ({ dst := some 27, op := Go.Op.load 24 (Go.Operand.tmp 3), type := 24, pos := "law.go:75", after := #[{ on := 5, ground := Go.Ground.guard }], guard := some (5, false) } : Go.Oper)) (v := ?v11) rfl (by kernel_rfl) (by kernel_rfl) (by kernel_rfl) (fun _ _ _ h => h) (Or.inl ⟨by rfl, ?hy11⟩) (by assumption) ?rest11
        case hy11 => (intro w hSw; (try dsimp only at hSw); go_simp; (try with_reducible rfl))
        (try simp only [Act.put, List.getElem_toArray, List.getElem_cons_zero, List.getElem_cons_succ, List.setIfInBounds_toArray, List.set_cons_zero, List.set_cons_succ])
        refine wpAnyH_take (i := 8) (oi := ({ dst := some 29, op := Go.Op.load 24 (Go.Operand.tmp 1), type := 24, pos := "law.go:75", after := #[{ on := 5, ground := Go.Ground.guard }], guard := some (5, false) } : Go.Oper)) (v := ?v12) rfl (by kernel_rfl) (by kernel_rfl) (by kernel_rfl) (fun _ _ _ h => h) (Or.inl ⟨by rfl, ?hy12⟩) (by assumption) ?rest12
        case hy12 => (intro w hSw; (try dsimp only at hSw); go_simp; (try with_reducible rfl))
        (try simp only [Act.put, List.getElem_toArray, List.getElem_cons_zero, List.getElem_cons_succ, List.setIfInBounds_toArray, List.set_cons_zero, List.set_cons_succ])
        refine wpAnyH_ready (rs := [7, 9]) (by kernel_rfl) (by simp) ?_
        refine AllReadyH.cons (o := ({ dst := some 28, op := Go.Op.buildSlice 26 1 #[(0, Go.Operand.tmp 27)], type := 26, pos := "law.go:75", after := #[{ on := 6, ground := Go.Ground.data }, { on := 5, ground := Go.Ground.guard }], guard := some (5, false) } : Go.Oper)) rfl (fun K hK => ?one13) ?more13
        case' one13 =>
          go_simp
          refine hK.out _ _ (by (try dsimp only); exact HS4.out _ (X5.out.trans (by with_reducible (repeat (first | exact Ext.rfl_ _ | assumption | refine Ext.drew ?_ | refine Ext.drewN ?_ _ | refine Ext.alloc ?_ _ | refine Ext.setCell ?_ (by first | (simp; done) | (simp; omega)) _ | refine Ext.trans ?_ (by assumption)))))) (fun hHeld => ?_)
          clear hK K
          (try simp only [Act.put, List.getElem_toArray, List.getElem_cons_zero, List.getElem_cons_succ, List.setIfInBounds_toArray, List.set_cons_zero, List.set_cons_succ])
          refine wpAnyH_ready (rs := [9]) (by kernel_rfl) (by simp) ?_
          refine AllReadyH.cons (o := ({ dst := some 30, op := Go.Op.buildSlice 26 1 #[(0, Go.Operand.tmp 29)], type := 26, pos := "law.go:75", after := #[{ on := 8, ground := Go.Ground.data }, { on := 5, ground := Go.Ground.guard }], guard := some (5, false) } : Go.Oper)) rfl (fun K hK => ?_) AllReadyH.nil
          go_simp
          refine hK.out _ _ (by (try dsimp only); exact HS4.out _ (X5.out.trans (by with_reducible (repeat (first | exact Ext.rfl_ _ | assumption | refine Ext.drew ?_ | refine Ext.drewN ?_ _ | refine Ext.alloc ?_ _ | refine Ext.setCell ?_ (by first | (simp; done) | (simp; omega)) _ | refine Ext.trans ?_ (by assumption)))))) (fun hHeld => ?_)
          clear hK K
          (try simp only [Act.put, List.getElem_toArray, List.getElem_cons_zero, List.getElem_cons_succ, List.setIfInBounds_toArray, List.set_cons_zero, List.set_cons_succ])
          refine wpAnyH_ready (rs := [10]) (by kernel_rfl) (by simp) ?_
          refine AllReadyH.cons (o := ({ dst := some 31, op := Go.Op.call { callee := Go.Callee.value (Go.Operand.func 15), args := #[Go.Operand.tmp 28, Go.Operand.tmp 30], argTypes := #[26, 26] }, type := 4, pos := "law.go:75", after := #[{ on := 7, ground := Go.Ground.data }, { on := 9, ground := Go.Ground.data }, { on := 5, ground := Go.Ground.chain }, { on := 5, ground := Go.Ground.guard }], guard := some (5, false) } : Go.Oper)) rfl (fun K hK => ?_) AllReadyH.nil
          go_simp
          (first | (go_at_call 13; go_must (refine (wmay_any _ x _ (HBY.out _ (X5.out.trans (by with_reducible (repeat (first | exact Ext.rfl_ _ | assumption | refine Ext.drew ?_ | refine Ext.drewN ?_ _ | refine Ext.alloc ?_ _ | refine Ext.trans ?_ (by assumption))))))).mono ?_); rintro e w6 ⟨rfl, hw6⟩; rw [HMT.out]) | (go_at_call 14; go_must (refine (rmay13_any _ x _ (HBX.out _ (X5.out.trans (by with_reducible (repeat (first | exact Ext.rfl_ _ | assumption | refine Ext.drew ?_ | refine Ext.drewN ?_ _ | refine Ext.alloc ?_ _ | refine Ext.trans ?_ (by assumption))))))).mono ?_); rintro e w7 ⟨rfl, hw7⟩; rw [HMT.out]) | (go_at_call 15; go_must (refine (rsame13_any _ _ _ _ _ _ [x] [x] _ (RdLB.one (by first | exact heap_alloc_new _ _ | exact (two_new _ _ _).1 | exact (two_new _ _ _).2 | exact hk4 (heap_alloc_new _ _) | exact hk4 (two_new _ _ _).1 | exact hk4 (two_new _ _ _).2 | exact Ext.blk (Ext.alloc (Ext.rfl_ _) _) (hk4 (heap_alloc_new _ _))) (HR4.out.ext (X5.out.trans (by with_reducible (repeat (first | exact Ext.rfl_ _ | assumption | refine Ext.drew ?_ | refine Ext.drewN ?_ _ | refine Ext.alloc ?_ _ | refine Ext.trans ?_ (by assumption)))))) hc4) (RdLB.one (by first | exact heap_alloc_new _ _ | exact (two_new _ _ _).1 | exact (two_new _ _ _).2 | exact hk4 (heap_alloc_new _ _) | exact hk4 (two_new _ _ _).1 | exact hk4 (two_new _ _ _).2 | exact Ext.blk (Ext.alloc (Ext.rfl_ _) _) (hk4 (heap_alloc_new _ _))) (HL.out.ext (XC.out.trans (X5.out.trans (by with_reducible (repeat (first | exact Ext.rfl_ _ | assumption | refine Ext.drew ?_ | refine Ext.drewN ?_ _ | refine Ext.alloc ?_ _ | refine Ext.trans ?_ (by assumption))))))) hc)).mono ?_); rintro e w8 ⟨rfl, hw8⟩; rw [decide_eq_true rfl]))
          (try (go_wp2_with fail))
          refine hK.out _ _ (by (try dsimp only); exact HS4.out _ (X5.out.trans (by with_reducible (repeat (first | exact Ext.rfl_ _ | assumption | refine Ext.drew ?_ | refine Ext.drewN ?_ _ | refine Ext.alloc ?_ _ | refine Ext.setCell ?_ (by first | (simp; done) | (simp; omega)) _ | refine Ext.trans ?_ (by assumption)))))) (fun hHeld => ?_)
          clear hK K
          (try simp only [Act.put, List.getElem_toArray, List.getElem_cons_zero, List.getElem_cons_succ, List.setIfInBounds_toArray, List.set_cons_zero, List.set_cons_succ])
          refine wpAnyH_take (i := 11) (oi := ({ dst := some 32, op := Go.Op.unOp Go.UnOp.not 4 (Go.Operand.tmp 31), type := 4, pos := "law.go:75", after := #[{ on := 10, ground := Go.Ground.data }, { on := 5, ground := Go.Ground.guard }], guard := some (5, false) } : Go.Oper)) (v := ?v14) rfl (by kernel_rfl) (by kernel_rfl) (by kernel_rfl) (fun _ _ _ h => h) (Or.inl ⟨by rfl, ?hy14⟩) (by assumption) ?rest14
          case hy14 => (intro w hSw; (try dsimp only at hSw); go_simp; (try with_reducible rfl))
          (try simp only [Act.put, List.getElem_toArray, List.getElem_cons_zero, List.getElem_cons_succ, List.setIfInBounds_toArray, List.set_cons_zero, List.set_cons_succ])
          refine wpAnyH_take (i := 12) (oi := ({ dst := some 33, op := Go.Op.pick (Go.Operand.tmp 26) (Go.Operand.const (Go.Value.bool true)) (Go.Operand.tmp 32), type := 4, pos := "law.go:75", after := #[{ on := 5, ground := Go.Ground.data }, { on := 11, ground := Go.Ground.data }], guard := none } : Go.Oper)) (v := ?v15) rfl (by kernel_rfl) (by kernel_rfl) (by kernel_rfl) (fun _ _ _ h => h) (Or.inl ⟨by rfl, ?hy15⟩) (by assumption) ?rest15
          case hy15 => (intro w hSw; (try dsimp only at hSw); go_simp; (try with_reducible rfl))
          (try simp only [Act.put, List.getElem_toArray, List.getElem_cons_zero, List.getElem_cons_succ, List.setIfInBounds_toArray, List.set_cons_zero, List.set_cons_succ])
          refine wpAnyH_done (by kernel_rfl) ?_ _
        case' more13 =>
          refine AllReadyH.cons (o := ({ dst := some 30, op := Go.Op.buildSlice 26 1 #[(0, Go.Operand.tmp 29)], type := 26, pos := "law.go:75", after := #[{ on := 8, ground := Go.Ground.data }, { on := 5, ground := Go.Ground.guard }], guard := some (5, false) } : Go.Oper)) rfl (fun K hK => ?_) AllReadyH.nil
          go_simp
          refine hK.out _ _ (by (try dsimp only); exact HS4.out _ (X5.out.trans (by with_reducible (repeat (first | exact Ext.rfl_ _ | assumption | refine Ext.drew ?_ | refine Ext.drewN ?_ _ | refine Ext.alloc ?_ _ | refine Ext.setCell ?_ (by first | (simp; done) | (simp; omega)) _ | refine Ext.trans ?_ (by assumption)))))) (fun hHeld => ?_)
          clear hK K
          (try simp only [Act.put, List.getElem_toArray, List.getElem_cons_zero, List.getElem_cons_succ, List.setIfInBounds_toArray, List.set_cons_zero, List.set_cons_succ])
          refine wpAnyH_ready (rs := [7]) (by kernel_rfl) (by simp) ?_
          refine AllReadyH.cons (o := ({ dst := some 28, op := Go.Op.buildSlice 26 1 #[(0, Go.Operand.tmp 27)], type := 26, pos := "law.go:75", after := #[{ on := 6, ground := Go.Ground.data }, { on := 5, ground := Go.Ground.guard }], guard := some (5, false) } : Go.Oper)) rfl (fun K hK => ?_) AllReadyH.nil
          go_simp
          refine hK.out _ _ (by (try dsimp only); exact HS4.out _ (X5.out.trans (by with_reducible (repeat (first | exact Ext.rfl_ _ | assumption | refine Ext.drew ?_ | refine Ext.drewN ?_ _ | refine Ext.alloc ?_ _ | refine Ext.setCell ?_ (by first | (simp; done) | (simp; omega)) _ | refine Ext.trans ?_ (by assumption)))))) (fun hHeld => ?_)
          clear hK K
          (try simp only [Act.put, List.getElem_toArray, List.getElem_cons_zero, List.getElem_cons_succ, List.setIfInBounds_toArray, List.set_cons_zero, List.set_cons_succ])
          refine wpAnyH_ready (rs := [10]) (by kernel_rfl) (by simp) ?_
          refine AllReadyH.cons (o := ({ dst := some 31, op := Go.Op.call { callee := Go.Callee.value (Go.Operand.func 15), args := #[Go.Operand.tmp 28, Go.Operand.tmp 30], argTypes := #[26, 26] }, type := 4, pos := "law.go:75", after := #[{ on := 7, ground := Go.Ground.data }, { on := 9, ground := Go.Ground.data }, { on := 5, ground := Go.Ground.chain }, { on := 5, ground := Go.Ground.guard }], guard := some (5, false) } : Go.Oper)) rfl (fun K hK => ?_) AllReadyH.nil
          go_simp
          (first | (go_at_call 13; go_must (refine (wmay_any _ x _ (HBY.out _ (X5.out.trans (by with_reducible (repeat (first | exact Ext.rfl_ _ | assumption | refine Ext.drew ?_ | refine Ext.drewN ?_ _ | refine Ext.alloc ?_ _ | refine Ext.trans ?_ (by assumption))))))).mono ?_); rintro e w6 ⟨rfl, hw6⟩; rw [HMT.out]) | (go_at_call 14; go_must (refine (rmay13_any _ x _ (HBX.out _ (X5.out.trans (by with_reducible (repeat (first | exact Ext.rfl_ _ | assumption | refine Ext.drew ?_ | refine Ext.drewN ?_ _ | refine Ext.alloc ?_ _ | refine Ext.trans ?_ (by assumption))))))).mono ?_); rintro e w7 ⟨rfl, hw7⟩; rw [HMT.out]) | (go_at_call 15; go_must (refine (rsame13_any _ _ _ _ _ _ [x] [x] _ (RdLB.one (by first | exact heap_alloc_new _ _ | exact (two_new _ _ _).1 | exact (two_new _ _ _).2 | exact hk4 (heap_alloc_new _ _) | exact hk4 (two_new _ _ _).1 | exact hk4 (two_new _ _ _).2 | exact Ext.blk (Ext.alloc (Ext.rfl_ _) _) (hk4 (heap_alloc_new _ _))) (HR4.out.ext (X5.out.trans (by with_reducible (repeat (first | exact Ext.rfl_ _ | assumption | refine Ext.drew ?_ | refine Ext.drewN ?_ _ | refine Ext.alloc ?_ _ | refine Ext.trans ?_ (by assumption)))))) hc4) (RdLB.one (by first | exact heap_alloc_new _ _ | exact (two_new _ _ _).1 | exact (two_new _ _ _).2 | exact hk4 (heap_alloc_new _ _) | exact hk4 (two_new _ _ _).1 | exact hk4 (two_new _ _ _).2 | exact Ext.blk (Ext.alloc (Ext.rfl_ _) _) (hk4 (heap_alloc_new _ _))) (HL.out.ext (XC.out.trans (X5.out.trans (by with_reducible (repeat (first | exact Ext.rfl_ _ | assumption | refine Ext.drew ?_ | refine Ext.drewN ?_ _ | refine Ext.alloc ?_ _ | refine Ext.trans ?_ (by assumption))))))) hc)).mono ?_); rintro e w8 ⟨rfl, hw8⟩; rw [decide_eq_true rfl]))
          (try (go_wp2_with fail))
          refine hK.out _ _ (by (try dsimp only); exact HS4.out _ (X5.out.trans (by with_reducible (repeat (first | exact Ext.rfl_ _ | assumption | refine Ext.drew ?_ | refine Ext.drewN ?_ _ | refine Ext.alloc ?_ _ | refine Ext.setCell ?_ (by first | (simp; done) | (simp; omega)) _ | refine Ext.trans ?_ (by assumption)))))) (fun hHeld => ?_)
          clear hK K
          (try simp only [Act.put, List.getElem_toArray, List.getElem_cons_zero, List.getElem_cons_succ, List.setIfInBounds_toArray, List.set_cons_zero, List.set_cons_succ])
          refine wpAnyH_take (i := 11) (oi := ({ dst := some 32, op := Go.Op.unOp Go.UnOp.not 4 (Go.Operand.tmp 31), type := 4, pos := "law.go:75", after := #[{ on := 10, ground := Go.Ground.data }, { on := 5, ground := Go.Ground.guard }], guard := some (5, false) } : Go.Oper)) (v := ?v16) rfl (by kernel_rfl) (by kernel_rfl) (by kernel_rfl) (fun _ _ _ h => h) (Or.inl ⟨by rfl, ?hy16⟩) (by assumption) ?rest16
          case hy16 => (intro w hSw; (try dsimp only at hSw); go_simp; (try with_reducible rfl))
          (try simp only [Act.put, List.getElem_toArray, List.getElem_cons_zero, List.getElem_cons_succ, List.setIfInBounds_toArray, List.set_cons_zero, List.set_cons_succ])
          refine wpAnyH_take (i := 12) (oi := ({ dst := some 33, op := Go.Op.pick (Go.Operand.tmp 26) (Go.Operand.const (Go.Value.bool true)) (Go.Operand.tmp 32), type := 4, pos := "law.go:75", after := #[{ on := 5, ground := Go.Ground.data }, { on := 11, ground := Go.Ground.data }], guard := none } : Go.Oper)) (v := ?v17) rfl (by kernel_rfl) (by kernel_rfl) (by kernel_rfl) (fun _ _ _ h => h) (Or.inl ⟨by rfl, ?hy17⟩) (by assumption) ?rest17
          case hy17 => (intro w hSw; (try dsimp only at hSw); go_simp; (try with_reducible rfl))
          (try simp only [Act.put, List.getElem_toArray, List.getElem_cons_zero, List.getElem_cons_succ, List.setIfInBounds_toArray, List.set_cons_zero, List.set_cons_succ])
          refine wpAnyH_done (by kernel_rfl) ?_ _
        all_goals
          go_wp2
          go_meet
          exact ⟨rfl, (by with_reducible (repeat (first | exact Ext.rfl_ _ | assumption | refine Ext.drew ?_ | refine Ext.drewN ?_ _ | refine Ext.alloc ?_ _ | refine Ext.trans ?_ (by assumption))))⟩
      case rest =>
        obtain ⟨rfl, hx6⟩ := hcut
        have X6 := Lib.hid (X5.out.trans hx6)
        have R6 := Lib.hid (R5.out.ext hx6)
        have HS6 : Hid (∀ W, Ext wc W → (W.cell? ⟨w.heap.size, 0, none⟩ = some (.int .i64 x.idx) ∧ W.cell? ⟨w.heap.size, 1, none⟩ = some (.slice A n c))) := Lib.hid fun W K => (HS4.out W (X6.out.trans K)).1
        have HBX6 : Hid (∀ W, Ext wc W → RdB W (.agg #[.int .i64 x.idx, .slice A n c]) x) := Lib.hid fun W K => HBX.out W (X6.out.trans K)
        obtain ⟨e0, e1⟩ := HS6.out _ (Ext.rfl_ _)
        have XA := Lib.hid (XC.out.trans X6.out)
        clear hx6
        go_wp2_with fail
        refine (rmay13_any _ x _ (HBX6.out _ (by with_reducible (repeat (first | exact Ext.rfl_ _ | assumption | refine Ext.drew ?_ | refine Ext.drewN ?_ _ | refine Ext.alloc ?_ _ | refine Ext.trans ?_ (by assumption)))))).mono ?_
        rintro e w7 ⟨rfl, hw7⟩
        rw [HMT.out]
        have X7 := Lib.hid hw7
        clear hw7 e0 e1
        cases mt with
        | false =>
          have hw0 : wrW x = [] := by unfold wrW; rw [HMT.out]; simp
          have hN : wN = 2 := by rw [HWN.out]; unfold wrWN; rw [HMT.out]; rfl
          have hn5 : n5 = 0 := by rw [← R5.out.1, hw0]; rfl
          subst hn5 hN
          clear hw0
          go_wp2_with (first | (go_at_call 16; refine (num_any _ _).mono ?_; rintro e wn ⟨rfl, rfl⟩))
          refine (known_any _).mono ?_
          rintro e w9 ⟨rfl, hw9⟩
          go_wp2
          go_ret
          exact ⟨rfl, XA.out.trans (X7.out.trans (by with_reducible (repeat (first | exact Ext.rfl_ _ | assumption | refine Ext.drew ?_ | refine Ext.drewN ?_ _ | refine Ext.alloc ?_ _ | refine Ext.trans ?_ (by assumption)))))⟩
        | true =>
          have hfm := payB_may HMT.out HWT.out
          have hpl := payB_len HMT.out HWT.out
          have hw0 : wrW x = frmB (payB x) := by unfold wrW; rw [if_pos ⟨HMT.out, hfm⟩]
          have hN : wN = 0 := by rw [HWN.out]; unfold wrWN; rw [if_pos HMT.out, if_pos hfm]
          have HPL : Hid ((payB x).length ≤ 4294967295) := Lib.hid (by have := HWT.out; omega)
          obtain ⟨fb, hfb⟩ : ∃ z, z = frmB (payB x) := ⟨_, rfl⟩
          have HFB := Lib.hid hfb
          have R7 := Lib.hid (show Rd w7 A5 n5 fb from by rw [hfb, ← hw0]; exact R6.out.ext X7.out)
          have HS7 : Hid (∀ W, Ext w7 W → (W.cell? ⟨w.heap.size, 0, none⟩ = some (.int .i64 x.idx) ∧ W.cell? ⟨w.heap.size, 1, none⟩ = some (.slice A n c))) := Lib.hid fun W K => HS6.out W (X7.out.trans K)
          subst hN
          clear hw0 hfm hpl hfb
          go_wp2_with fail
          refine wp_region_held_drew (S := (fun W => (W.cell? ⟨w.heap.size, 0, none⟩ = some (.int .i64 x.idx) ∧ W.cell? ⟨w.heap.size, 1, none⟩ = some (.slice A n c)))) (by kernel_rfl) (by (try dsimp only); exact HS7.out _ (by with_reducible (repeat (first | exact Ext.rfl_ _ | assumption | refine Ext.drew ?_ | refine Ext.drewN ?_ _ | refine Ext.alloc ?_ _ | refine Ext.setCell ?_ (by first | (simp; done) | (simp; omega)) _ | refine Ext.trans ?_ (by assumption))))) (fun hHeld => ?_)
          refine wpAnyH_take (i := 0) (oi := ({ dst := some 48, op := Go.Op.move (Go.Operand.tmp 4), type := 29, pos := "law.go:81", after := #[], guard := none } : Go.Oper)) (v := ?v18) rfl (by kernel_rfl) (by kernel_rfl) (by kernel_rfl) (fun _ _ _ h => h) (Or.inl ⟨by rfl, ?hy18⟩) (by assumption) ?rest18
          case hy18 => (intro w hSw; (try dsimp only at hSw); go_simp; (try with_reducible rfl))
          (try simp only [Act.put, List.getElem_toArray, List.getElem_cons_zero, List.getElem_cons_succ, List.setIfInBounds_toArray, List.set_cons_zero, List.set_cons_succ])
          refine wpAnyH_take (i := 2) (oi := ({ dst := some 50, op := Go.Op.load 24 (Go.Operand.tmp 1), type := 24, pos := "law.go:81", after := #[], guard := none } : Go.Oper)) (v := ?v19) rfl (by kernel_rfl) (by kernel_rfl) (by kernel_rfl) (fun _ _ _ h => h) (Or.inl ⟨by rfl, ?hy19⟩) (by assumption) ?rest19
          case hy19 => (intro w hSw; (try dsimp only at hSw); go_simp; (try with_reducible rfl))
          (try simp only [Act.put, List.getElem_toArray, List.getElem_cons_zero, List.getElem_cons_succ, List.setIfInBounds_toArray, List.set_cons_zero, List.set_cons_succ])
          refine wpAnyH_ready (rs := [1, 3]) (by kernel_rfl) (by simp) ?_
          refine AllReadyH.cons (o := ({ dst := some 49, op := Go.Op.convert 29 9 (Go.Operand.tmp 48), type := 9, pos := "law.go:81", after := #[{ on := 0, ground := Go.Ground.data }], guard := none } : Go.Oper)) rfl (fun K hK => ?one20) ?more20
          case' one20 =>
            go_simp; rw [Rd.str (P := Try.prog) (x := fb) (?_ : Rd _ A5 n5 (fb)) c5 29 5 9 Try.underlying29 Try.underlying5 Try.underlying9]; rotate_left; exact (R7.out.ext (by with_reducible (repeat (first | exact Ext.rfl_ _ | assumption | refine Ext.drew ?_ | refine Ext.drewN ?_ _ | refine Ext.alloc ?_ _ | refine Ext.trans ?_ (by assumption))))); simp only [Result.andThen]; go_simp
            refine hK.out _ _ (by (try dsimp only); exact HS7.out _ (by with_reducible (repeat (first | exact Ext.rfl_ _ | assumption | refine Ext.drew ?_ | refine Ext.drewN ?_ _ | refine Ext.alloc ?_ _ | refine Ext.setCell ?_ (by first | (simp; done) | (simp; omega)) _ | refine Ext.trans ?_ (by assumption))))) (fun hHeld => ?_)
            clear hK K
            (try simp only [Act.put, List.getElem_toArray, List.getElem_cons_zero, List.getElem_cons_succ, List.setIfInBounds_toArray, List.set_cons_zero, List.set_cons_succ])
            refine wpAnyH_ready (rs := [3]) (by kernel_rfl) (by simp) ?_
            refine AllReadyH.cons (o := ({ dst := some 51, op := Go.Op.call { callee := Go.Callee.value (Go.Operand.func 18), args := #[Go.Operand.tmp 50], argTypes := #[24] }, type := 29, pos := "law.go:81", after := #[{ on := 2, ground := Go.Ground.data }], guard := none } : Go.Oper)) rfl (fun K hK => ?_) AllReadyH.nil
            go_simp
            (first | (go_at_call 18; go_must (refine (rpayload_any _ x _ (HBX6.out _ (X7.out.trans (by with_reducible (repeat (first | exact Ext.rfl_ _ | assumption | refine Ext.drew ?_ | refine Ext.drewN ?_ _ | refine Ext.alloc ?_ _ | refine Ext.trans ?_ (by assumption)))))) HMT.out).mono ?_); rintro e w8 ⟨v8, rfl, o8, hw8⟩; obtain ⟨A8, n8, c8, rfl, l8, r8, _⟩ := o8.formN; clear o8) | (go_at_call 17; go_must (refine (rput4_any A8 n8 c8 (payB x) _ (r8.ext (by with_reducible (repeat (first | exact Ext.rfl_ _ | assumption | refine Ext.drew ?_ | refine Ext.drewN ?_ _ | refine Ext.alloc ?_ _ | refine Ext.trans ?_ (by assumption))))) (by rw [← r8.1]; exact HPL.out)).mono ?_); rintro e w9 ⟨v9, rfl, o9, hw9⟩; rw [← HFB.out] at o9; obtain ⟨A9, n9, c9, rfl, l9, r9, _⟩ := o9.formN; have R9 := Lib.hid r9; clear o9 r9) | (go_at_call 16; refine (num_any _ _).mono ?_; rintro e wn ⟨rfl, rfl⟩) | (go_at_call 10; refine (known_any _).mono ?_; rintro e w10 ⟨rfl, hw10⟩))
            (try (go_wp2_with fail))
            refine hK.out _ _ (by (try dsimp only); exact HS7.out _ (by with_reducible (repeat (first | exact Ext.rfl_ _ | assumption | refine Ext.drew ?_ | refine Ext.drewN ?_ _ | refine Ext.alloc ?_ _ | refine Ext.setCell ?_ (by first | (simp; done) | (simp; omega)) _ | refine Ext.trans ?_ (by assumption))))) (fun hHeld => ?_)
            clear hK K
            (try simp only [Act.put, List.getElem_toArray, List.getElem_cons_zero, List.getElem_cons_succ, List.setIfInBounds_toArray, List.set_cons_zero, List.set_cons_succ])
            refine wpAnyH_ready (rs := [4]) (by kernel_rfl) (by simp) ?_
            refine AllReadyH.cons (o := ({ dst := some 52, op := Go.Op.call { callee := Go.Callee.value (Go.Operand.func 17), args := #[Go.Operand.tmp 51], argTypes := #[29] }, type := 29, pos := "law.go:81", after := #[{ on := 3, ground := Go.Ground.data }, { on := 3, ground := Go.Ground.chain }], guard := none } : Go.Oper)) rfl (fun K hK => ?_) AllReadyH.nil
            go_simp
            (first | (go_at_call 18; go_must (refine (rpayload_any _ x _ (HBX6.out _ (X7.out.trans (by with_reducible (repeat (first | exact Ext.rfl_ _ | assumption | refine Ext.drew ?_ | refine Ext.drewN ?_ _ | refine Ext.alloc ?_ _ | refine Ext.trans ?_ (by assumption)))))) HMT.out).mono ?_); rintro e w8 ⟨v8, rfl, o8, hw8⟩; obtain ⟨A8, n8, c8, rfl, l8, r8, _⟩ := o8.formN; clear o8) | (go_at_call 17; go_must (refine (rput4_any A8 n8 c8 (payB x) _ (r8.ext (by with_reducible (repeat (first | exact Ext.rfl_ _ | assumption | refine Ext.drew ?_ | refine Ext.drewN ?_ _ | refine Ext.alloc ?_ _ | refine Ext.trans ?_ (by assumption))))) (by rw [← r8.1]; exact HPL.out)).mono ?_); rintro e w9 ⟨v9, rfl, o9, hw9⟩; rw [← HFB.out] at o9; obtain ⟨A9, n9, c9, rfl, l9, r9, _⟩ := o9.formN; have R9 := Lib.hid r9; clear o9 r9) | (go_at_call 16; refine (num_any _ _).mono ?_; rintro e wn ⟨rfl, rfl⟩) | (go_at_call 10; refine (known_any _).mono ?_; rintro e w10 ⟨rfl, hw10⟩))
            (try (go_wp2_with fail))
            refine hK.out _ _ (by (try dsimp only); exact HS7.out _ (by with_reducible (repeat (first | exact Ext.rfl_ _ | assumption | refine Ext.drew ?_ | refine Ext.drewN ?_ _ | refine Ext.alloc ?_ _ | refine Ext.setCell ?_ (by first | (simp; done) | (simp; omega)) _ | refine Ext.trans ?_ (by assumption))))) (fun hHeld => ?_)
            clear hK K
            (try simp only [Act.put, List.getElem_toArray, List.getElem_cons_zero, List.getElem_cons_succ, List.setIfInBounds_toArray, List.set_cons_zero, List.set_cons_succ])
            refine wpAnyH_ready (rs := [5]) (by kernel_rfl) (by simp) ?_
            refine AllReadyH.cons (o := ({ dst := some 53, op := Go.Op.convert 29 9 (Go.Operand.tmp 52), type := 9, pos := "law.go:81", after := #[{ on := 4, ground := Go.Ground.data }], guard := none } : Go.Oper)) rfl (fun K hK => ?_) AllReadyH.nil
            go_simp; rw [Rd.str (P := Try.prog) (x := fb) (?_ : Rd _ A9 n9 (fb)) c9 29 5 9 Try.underlying29 Try.underlying5 Try.underlying9]; rotate_left; exact (R9.out.ext (by with_reducible (repeat (first | exact Ext.rfl_ _ | assumption | refine Ext.drew ?_ | refine Ext.drewN ?_ _ | refine Ext.alloc ?_ _ | refine Ext.trans ?_ (by assumption))))); simp only [Result.andThen]; go_simp
            refine hK.out _ _ (by (try dsimp only); exact HS7.out _ (by with_reducible (repeat (first | exact Ext.rfl_ _ | assumption | refine Ext.drew ?_ | refine Ext.drewN ?_ _ | refine Ext.alloc ?_ _ | refine Ext.setCell ?_ (by first | (simp; done) | (simp; omega)) _ | refine Ext.trans ?_ (by assumption))))) (fun hHeld => ?_)
            clear hK K
            (try simp only [Act.put, List.getElem_toArray, List.getElem_cons_zero, List.getElem_cons_succ, List.setIfInBounds_toArray, List.set_cons_zero, List.set_cons_succ])
            refine wpAnyH_take (i := 6) (oi := ({ dst := some 54, op := Go.Op.binOp Go.BinOp.eql 9 (Go.Operand.tmp 49) (Go.Operand.tmp 53) 9, type := 4, pos := "law.go:81", after := #[{ on := 1, ground := Go.Ground.data }, { on := 5, ground := Go.Ground.data }], guard := none } : Go.Oper)) (v := ?v21) rfl (by kernel_rfl) (by kernel_rfl) (by kernel_rfl) (fun _ _ _ h => h) (Or.inl ⟨by rfl, ?hy21⟩) (by assumption) ?rest21
            case hy21 => (intro w hSw; (try dsimp only at hSw); go_simp; (try with_reducible rfl))
            (try simp only [Act.put, List.getElem_toArray, List.getElem_cons_zero, List.getElem_cons_succ, List.setIfInBounds_toArray, List.set_cons_zero, List.set_cons_succ])
            refine wpAnyH_take (i := 7) (oi := ({ dst := some 55, op := Go.Op.move (Go.Operand.tmp 54), type := 4, pos := "law.go:81", after := #[{ on := 6, ground := Go.Ground.data }, { on := 4, ground := Go.Ground.chain }], guard := none } : Go.Oper)) (v := ?v22) rfl (by kernel_rfl) (by kernel_rfl) (by kernel_rfl) (fun _ _ _ h => h) (Or.inl ⟨by rfl, ?hy22⟩) (by assumption) ?rest22
            case hy22 => (intro w hSw; (try dsimp only at hSw); go_simp; (try with_reducible rfl))
            (try simp only [Act.put, List.getElem_toArray, List.getElem_cons_zero, List.getElem_cons_succ, List.setIfInBounds_toArray, List.set_cons_zero, List.set_cons_succ])
            refine wpAnyH_take (i := 8) (oi := ({ dst := some 56, op := Go.Op.move (Go.Operand.tmp 5), type := 30, pos := "law.go:81", after := #[{ on := 7, ground := Go.Ground.guard }], guard := some (7, true) } : Go.Oper)) (v := ?v23) rfl (by kernel_rfl) (by kernel_rfl) (by kernel_rfl) (fun _ _ _ h => h) (Or.inl ⟨by rfl, ?hy23⟩) (by assumption) ?rest23
            case hy23 => (intro w hSw; (try dsimp only at hSw); go_simp; (try with_reducible rfl))
            (try simp only [Act.put, List.getElem_toArray, List.getElem_cons_zero, List.getElem_cons_succ, List.setIfInBounds_toArray, List.set_cons_zero, List.set_cons_succ])
            refine wpAnyH_ready (rs := [9]) (by kernel_rfl) (by simp) ?_
            refine AllReadyH.cons (o := ({ dst := some 57, op := Go.Op.call { callee := Go.Callee.value (Go.Operand.func 16), args := #[Go.Operand.tmp 56], argTypes := #[30] }, type := 3, pos := "law.go:81", after := #[{ on := 8, ground := Go.Ground.data }, { on := 7, ground := Go.Ground.chain }, { on := 7, ground := Go.Ground.guard }], guard := some (7, true) } : Go.Oper)) rfl (fun K hK => ?_) AllReadyH.nil
            go_simp
            (first | (go_at_call 18; go_must (refine (rpayload_any _ x _ (HBX6.out _ (X7.out.trans (by with_reducible (repeat (first | exact Ext.rfl_ _ | assumption | refine Ext.drew ?_ | refine Ext.drewN ?_ _ | refine Ext.alloc ?_ _ | refine Ext.trans ?_ (by assumption)))))) HMT.out).mono ?_); rintro e w8 ⟨v8, rfl, o8, hw8⟩; obtain ⟨A8, n8, c8, rfl, l8, r8, _⟩ := o8.formN; clear o8) | (go_at_call 17; go_must (refine (rput4_any A8 n8 c8 (payB x) _ (r8.ext (by with_reducible (repeat (first | exact Ext.rfl_ _ | assumption | refine Ext.drew ?_ | refine Ext.drewN ?_ _ | refine Ext.alloc ?_ _ | refine Ext.trans ?_ (by assumption))))) (by rw [← r8.1]; exact HPL.out)).mono ?_); rintro e w9 ⟨v9, rfl, o9, hw9⟩; rw [← HFB.out] at o9; obtain ⟨A9, n9, c9, rfl, l9, r9, _⟩ := o9.formN; have R9 := Lib.hid r9; clear o9 r9) | (go_at_call 16; refine (num_any _ _).mono ?_; rintro e wn ⟨rfl, rfl⟩) | (go_at_call 10; refine (known_any _).mono ?_; rintro e w10 ⟨rfl, hw10⟩))
            (try (go_wp2_with fail))
            refine hK.out _ _ (by (try dsimp only); exact HS7.out _ (by with_reducible (repeat (first | exact Ext.rfl_ _ | assumption | refine Ext.drew ?_ | refine Ext.drewN ?_ _ | refine Ext.alloc ?_ _ | refine Ext.setCell ?_ (by first | (simp; done) | (simp; omega)) _ | refine Ext.trans ?_ (by assumption))))) (fun hHeld => ?_)
            clear hK K
            (try simp only [Act.put, List.getElem_toArray, List.getElem_cons_zero, List.getElem_cons_succ, List.setIfInBounds_toArray, List.set_cons_zero, List.set_cons_succ])
            refine wpAnyH_take (i := 10) (oi := ({ dst := some 58, op := Go.Op.binOp Go.BinOp.eql 3 (Go.Operand.tmp 57) (Go.Operand.const (Go.Value.int Go.IntKind.i64 0)) 3, type := 4, pos := "law.go:81", after := #[{ on := 9, ground := Go.Ground.data }, { on := 7, ground := Go.Ground.guard }], guard := some (7, true) } : Go.Oper)) (v := ?v24) rfl (by kernel_rfl) (by kernel_rfl) (by kernel_rfl) (fun _ _ _ h => h) (Or.inl ⟨by rfl, ?hy24⟩) (by assumption) ?rest24
            case hy24 => (intro w hSw; (try dsimp only at hSw); go_simp; (try with_reducible rfl))
            (try simp only [Act.put, List.getElem_toArray, List.getElem_cons_zero, List.getElem_cons_succ, List.setIfInBounds_toArray, List.set_cons_zero, List.set_cons_succ])
            refine wpAnyH_take (i := 11) (oi := ({ dst := some 59, op := Go.Op.pick (Go.Operand.tmp 55) (Go.Operand.tmp 58) (Go.Operand.const (Go.Value.bool false)), type := 4, pos := "law.go:81", after := #[{ on := 7, ground := Go.Ground.data }, { on := 10, ground := Go.Ground.data }], guard := none } : Go.Oper)) (v := ?v25) rfl (by kernel_rfl) (by kernel_rfl) (by kernel_rfl) (fun _ _ _ h => h) (Or.inl ⟨by rfl, ?hy25⟩) (by assumption) ?rest25
            case hy25 => (intro w hSw; (try dsimp only at hSw); go_simp; (try with_reducible rfl))
            (try simp only [Act.put, List.getElem_toArray, List.getElem_cons_zero, List.getElem_cons_succ, List.setIfInBounds_toArray, List.set_cons_zero, List.set_cons_succ])
            refine wpAnyH_take (i := 12) (oi := ({ dst := some 60, op := Go.Op.move (Go.Operand.tmp 59), type := 4, pos := "law.go:81", after := #[{ on := 11, ground := Go.Ground.data }, { on := 9, ground := Go.Ground.chain }], guard := none } : Go.Oper)) (v := ?v26) rfl (by kernel_rfl) (by kernel_rfl) (by kernel_rfl) (fun _ _ _ h => h) (Or.inl ⟨by rfl, ?hy26⟩) (by assumption) ?rest26
            case hy26 => (intro w hSw; (try dsimp only at hSw); go_simp; (try with_reducible rfl))
            (try simp only [Act.put, List.getElem_toArray, List.getElem_cons_zero, List.getElem_cons_succ, List.setIfInBounds_toArray, List.set_cons_zero, List.set_cons_succ])
            refine wpAnyH_ready (rs := [13]) (by kernel_rfl) (by simp) ?_
            refine AllReadyH.cons (o := ({ dst := some 61, op := Go.Op.call { callee := Go.Callee.value (Go.Operand.func 10), args := #[], argTypes := #[] }, type := 4, pos := "law.go:81", after := #[{ on := 12, ground := Go.Ground.chain }, { on := 12, ground := Go.Ground.guard }], guard := some (12, true) } : Go.Oper)) rfl (fun K hK => ?_) AllReadyH.nil
            go_simp
            (first | (go_at_call 18; go_must (refine (rpayload_any _ x _ (HBX6.out _ (X7.out.trans (by with_reducible (repeat (first | exact Ext.rfl_ _ | assumption | refine Ext.drew ?_ | refine Ext.drewN ?_ _ | refine Ext.alloc ?_ _ | refine Ext.trans ?_ (by assumption)))))) HMT.out).mono ?_); rintro e w8 ⟨v8, rfl, o8, hw8⟩; obtain ⟨A8, n8, c8, rfl, l8, r8, _⟩ := o8.formN; clear o8) | (go_at_call 17; go_must (refine (rput4_any A8 n8 c8 (payB x) _ (r8.ext (by with_reducible (repeat (first | exact Ext.rfl_ _ | assumption | refine Ext.drew ?_ | refine Ext.drewN ?_ _ | refine Ext.alloc ?_ _ | refine Ext.trans ?_ (by assumption))))) (by rw [← r8.1]; exact HPL.out)).mono ?_); rintro e w9 ⟨v9, rfl, o9, hw9⟩; rw [← HFB.out] at o9; obtain ⟨A9, n9, c9, rfl, l9, r9, _⟩ := o9.formN; have R9 := Lib.hid r9; clear o9 r9) | (go_at_call 16; refine (num_any _ _).mono ?_; rintro e wn ⟨rfl, rfl⟩) | (go_at_call 10; refine (known_any _).mono ?_; rintro e w10 ⟨rfl, hw10⟩))
            (try (go_wp2_with fail))
            refine hK.out _ _ (by (try dsimp only); exact HS7.out _ (by with_reducible (repeat (first | exact Ext.rfl_ _ | assumption | refine Ext.drew ?_ | refine Ext.drewN ?_ _ | refine Ext.alloc ?_ _ | refine Ext.setCell ?_ (by first | (simp; done) | (simp; omega)) _ | refine Ext.trans ?_ (by assumption))))) (fun hHeld => ?_)
            clear hK K
            (try simp only [Act.put, List.getElem_toArray, List.getElem_cons_zero, List.getElem_cons_succ, List.setIfInBounds_toArray, List.set_cons_zero, List.set_cons_succ])
            refine wpAnyH_take (i := 14) (oi := ({ dst := some 62, op := Go.Op.pick (Go.Operand.tmp 60) (Go.Operand.tmp 61) (Go.Operand.const (Go.Value.bool false)), type := 4, pos := "law.go:81", after := #[{ on := 12, ground := Go.Ground.data }, { on := 13, ground := Go.Ground.data }], guard := none } : Go.Oper)) (v := ?v27) rfl (by kernel_rfl) (by kernel_rfl) (by kernel_rfl) (fun _ _ _ h => h) (Or.inl ⟨by rfl, ?hy27⟩) (by assumption) ?rest27
            case hy27 => (intro w hSw; (try dsimp only at hSw); go_simp; (try with_reducible rfl))
            (try simp only [Act.put, List.getElem_toArray, List.getElem_cons_zero, List.getElem_cons_succ, List.setIfInBounds_toArray, List.set_cons_zero, List.set_cons_succ])
            refine wpAnyH_take (i := 15) (oi := ({ dst := some 2, op := Go.Op.assign (Go.Operand.tmp 62), type := 4, pos := "law.go:81", after := #[{ on := 14, ground := Go.Ground.data }, { on := 13, ground := Go.Ground.chain }, { on := 0, ground := Go.Ground.phase }, { on := 1, ground := Go.Ground.phase }, { on := 2, ground := Go.Ground.phase }, { on := 3, ground := Go.Ground.phase }, { on := 4, ground := Go.Ground.phase }, { on := 5, ground := Go.Ground.phase }, { on := 6, ground := Go.Ground.phase }, { on := 7, ground := Go.Ground.phase }, { on := 8, ground := Go.Ground.phase }, { on := 9, ground := Go.Ground.phase }, { on := 10, ground := Go.Ground.phase }, { on := 11, ground := Go.Ground.phase }, { on := 12, ground := Go.Ground.phase }, { on := 13, ground := Go.Ground.phase }, { on := 14, ground := Go.Ground.phase }], guard := none } : Go.Oper)) (v := ?v28) rfl (by kernel_rfl) (by kernel_rfl) (by kernel_rfl) (fun _ _ _ h => h) (Or.inl ⟨by rfl, ?hy28⟩) (by assumption) ?rest28
            case hy28 => (intro w hSw; (try dsimp only at hSw); go_simp; (try with_reducible rfl))
            (try simp only [Act.put, List.getElem_toArray, List.getElem_cons_zero, List.getElem_cons_succ, List.setIfInBounds_toArray, List.set_cons_zero, List.set_cons_succ])
            refine wpAnyH_done (by kernel_rfl) ?_ _
          case' more20 =>
            refine AllReadyH.cons (o := ({ dst := some 51, op := Go.Op.call { callee := Go.Callee.value (Go.Operand.func 18), args := #[Go.Operand.tmp 50], argTypes := #[24] }, type := 29, pos := "law.go:81", after := #[{ on := 2, ground := Go.Ground.data }], guard := none } : Go.Oper)) rfl (fun K hK => ?_) AllReadyH.nil
            go_simp
            (first | (go_at_call 18; go_must (refine (rpayload_any _ x _ (HBX6.out _ (X7.out.trans (by with_reducible (repeat (first | exact Ext.rfl_ _ | assumption | refine Ext.drew ?_ | refine Ext.drewN ?_ _ | refine Ext.alloc ?_ _ | refine Ext.trans ?_ (by assumption)))))) HMT.out).mono ?_); rintro e w8 ⟨v8, rfl, o8, hw8⟩; obtain ⟨A8, n8, c8, rfl, l8, r8, _⟩ := o8.formN; clear o8) | (go_at_call 17; go_must (refine (rput4_any A8 n8 c8 (payB x) _ (r8.ext (by with_reducible (repeat (first | exact Ext.rfl_ _ | assumption | refine Ext.drew ?_ | refine Ext.drewN ?_ _ | refine Ext.alloc ?_ _ | refine Ext.trans ?_ (by assumption))))) (by rw [← r8.1]; exact HPL.out)).mono ?_); rintro e w9 ⟨v9, rfl, o9, hw9⟩; rw [← HFB.out] at o9; obtain ⟨A9, n9, c9, rfl, l9, r9, _⟩ := o9.formN; have R9 := Lib.hid r9; clear o9 r9) | (go_at_call 16; refine (num_any _ _).mono ?_; rintro e wn ⟨rfl, rfl⟩) | (go_at_call 10; refine (known_any _).mono ?_; rintro e w10 ⟨rfl, hw10⟩))
            (try (go_wp2_with fail))
            refine hK.out _ _ (by (try dsimp only); exact HS7.out _ (by with_reducible (repeat (first | exact Ext.rfl_ _ | assumption | refine Ext.drew ?_ | refine Ext.drewN ?_ _ | refine Ext.alloc ?_ _ | refine Ext.setCell ?_ (by first | (simp; done) | (simp; omega)) _ | refine Ext.trans ?_ (by assumption))))) (fun hHeld => ?_)
            clear hK K
            (try simp only [Act.put, List.getElem_toArray, List.getElem_cons_zero, List.getElem_cons_succ, List.setIfInBounds_toArray, List.set_cons_zero, List.set_cons_succ])
            refine wpAnyH_ready (rs := [1, 4]) (by kernel_rfl) (by simp) ?_
            refine AllReadyH.cons (o := ({ dst := some 49, op := Go.Op.convert 29 9 (Go.Operand.tmp 48), type := 9, pos := "law.go:81", after := #[{ on := 0, ground := Go.Ground.data }], guard := none } : Go.Oper)) rfl (fun K hK => ?one29) ?more29
            case' one29 =>
              go_simp; rw [Rd.str (P := Try.prog) (x := fb) (?_ : Rd _ A5 n5 (fb)) c5 29 5 9 Try.underlying29 Try.underlying5 Try.underlying9]; rotate_left; exact (R7.out.ext (by with_reducible (repeat (first | exact Ext.rfl_ _ | assumption | refine Ext.drew ?_ | refine Ext.drewN ?_ _ | refine Ext.alloc ?_ _ | refine Ext.trans ?_ (by assumption))))); simp only [Result.andThen]; go_simp
              refine hK.out _ _ (by (try dsimp only); exact HS7.out _ (by with_reducible (repeat (first | exact Ext.rfl_ _ | assumption | refine Ext.drew ?_ | refine Ext.drewN ?_ _ | refine Ext.alloc ?_ _ | refine Ext.setCell ?_ (by first | (simp; done) | (simp; omega)) _ | refine Ext.trans ?_ (by assumption))))) (fun hHeld => ?_)
              clear hK K
              (try simp only [Act.put, List.getElem_toArray, List.getElem_cons_zero, List.getElem_cons_succ, List.setIfInBounds_toArray, List.set_cons_zero, List.set_cons_succ])
              refine wpAnyH_ready (rs := [4]) (by kernel_rfl) (by simp) ?_
              refine AllReadyH.cons (o := ({ dst := some 52, op := Go.Op.call { callee := Go.Callee.value (Go.Operand.func 17), args := #[Go.Operand.tmp 51], argTypes := #[29] }, type := 29, pos := "law.go:81", after := #[{ on := 3, ground := Go.Ground.data }, { on := 3, ground := Go.Ground.chain }], guard := none } : Go.Oper)) rfl (fun K hK => ?_) AllReadyH.nil
              go_simp
              (first | (go_at_call 18; go_must (refine (rpayload_any _ x _ (HBX6.out _ (X7.out.trans (by with_reducible (repeat (first | exact Ext.rfl_ _ | assumption | refine Ext.drew ?_ | refine Ext.drewN ?_ _ | refine Ext.alloc ?_ _ | refine Ext.trans ?_ (by assumption)))))) HMT.out).mono ?_); rintro e w8 ⟨v8, rfl, o8, hw8⟩; obtain ⟨A8, n8, c8, rfl, l8, r8, _⟩ := o8.formN; clear o8) | (go_at_call 17; go_must (refine (rput4_any A8 n8 c8 (payB x) _ (r8.ext (by with_reducible (repeat (first | exact Ext.rfl_ _ | assumption | refine Ext.drew ?_ | refine Ext.drewN ?_ _ | refine Ext.alloc ?_ _ | refine Ext.trans ?_ (by assumption))))) (by rw [← r8.1]; exact HPL.out)).mono ?_); rintro e w9 ⟨v9, rfl, o9, hw9⟩; rw [← HFB.out] at o9; obtain ⟨A9, n9, c9, rfl, l9, r9, _⟩ := o9.formN; have R9 := Lib.hid r9; clear o9 r9) | (go_at_call 16; refine (num_any _ _).mono ?_; rintro e wn ⟨rfl, rfl⟩) | (go_at_call 10; refine (known_any _).mono ?_; rintro e w10 ⟨rfl, hw10⟩))
              (try (go_wp2_with fail))
              refine hK.out _ _ (by (try dsimp only); exact HS7.out _ (by with_reducible (repeat (first | exact Ext.rfl_ _ | assumption | refine Ext.drew ?_ | refine Ext.drewN ?_ _ | refine Ext.alloc ?_ _ | refine Ext.setCell ?_ (by first | (simp; done) | (simp; omega)) _ | refine Ext.trans ?_ (by assumption))))) (fun hHeld => ?_)
              clear hK K
              (try simp only [Act.put, List.getElem_toArray, List.getElem_cons_zero, List.getElem_cons_succ, List.setIfInBounds_toArray, List.set_cons_zero, List.set_cons_succ])
              refine wpAnyH_ready (rs := [5]) (by kernel_rfl) (by simp) ?_
              refine AllReadyH.cons (o := ({ dst := some 53, op := Go.Op.convert 29 9 (Go.Operand.tmp 52), type := 9, pos := "law.go:81", after := #[{ on := 4, ground := Go.Ground.data }], guard := none } : Go.Oper)) rfl (fun K hK => ?_) AllReadyH.nil
              go_simp; rw [Rd.str (P := Try.prog) (x := fb) (?_ : Rd _ A9 n9 (fb)) c9 29 5 9 Try.underlying29 Try.underlying5 Try.underlying9]; rotate_left; exact (R9.out.ext (by with_reducible (repeat (first | exact Ext.rfl_ _ | assumption | refine Ext.drew ?_ | refine Ext.drewN ?_ _ | refine Ext.alloc ?_ _ | refine Ext.trans ?_ (by assumption))))); simp only [Result.andThen]; go_simp
              refine hK.out _ _ (by (try dsimp only); exact HS7.out _ (by with_reducible (repeat (first | exact Ext.rfl_ _ | assumption | refine Ext.drew ?_ | refine Ext.drewN ?_ _ | refine Ext.alloc ?_ _ | refine Ext.setCell ?_ (by first | (simp; done) | (simp; omega)) _ | refine Ext.trans ?_ (by assumption))))) (fun hHeld => ?_)
              clear hK K
              (try simp only [Act.put, List.getElem_toArray, List.getElem_cons_zero, List.getElem_cons_succ, List.setIfInBounds_toArray, List.set_cons_zero, List.set_cons_succ])
              refine wpAnyH_take (i := 6) (oi := ({ dst := some 54, op := Go.Op.binOp Go.BinOp.eql 9 (Go.Operand.tmp 49) (Go.Operand.tmp 53) 9, type := 4, pos := "law.go:81", after := #[{ on := 1, ground := Go.Ground.data }, { on := 5, ground := Go.Ground.data }], guard := none } : Go.Oper)) (v := ?v30) rfl (by kernel_rfl) (by kernel_rfl) (by kernel_rfl) (fun _ _ _ h => h) (Or.inl ⟨by rfl, ?hy30⟩) (by assumption) ?rest30
              case hy30 => (intro w hSw; (try dsimp only at hSw); go_simp; (try with_reducible rfl))
              (try simp only [Act.put, List.getElem_toArray, List.getElem_cons_zero, List.getElem_cons_succ, List.setIfInBounds_toArray, List.set_cons_zero, List.set_cons_succ])
              refine wpAnyH_take (i := 7) (oi := ({ dst := some 55, op := Go.Op.move (Go.Operand.tmp 54), type := 4, pos := "law.go:81", after := #[{ on := 6, ground := Go.Ground.data }, { on := 4, ground := Go.Ground.chain }], guard := none } : Go.Oper)) (v := ?v31) rfl (by kernel_rfl) (by kernel_rfl) (by kernel_rfl) (fun _ _ _ h => h) (Or.inl ⟨by rfl, ?hy31⟩) (by assumption) ?rest31
              case hy31 => (intro w hSw; (try dsimp only at hSw); go_simp; (try with_reducible rfl))
              (try simp only [Act.put, List.getElem_toArray, List.getElem_cons_zero, List.getElem_cons_succ, List.setIfInBounds_toArray, List.set_cons_zero, List.set_cons_succ])
              refine wpAnyH_take (i := 8) (oi := ({ dst := some 56, op := Go.Op.move (Go.Operand.tmp 5), type := 30, pos := "law.go:81", after := #[{ on := 7, ground := Go.Ground.guard }], guard := some (7, true) } : Go.Oper)) (v := ?v32) rfl (by kernel_rfl) (by kernel_rfl) (by kernel_rfl) (fun _ _ _ h => h) (Or.inl ⟨by rfl, ?hy32⟩) (by assumption) ?rest32
              case hy32 => (intro w hSw; (try dsimp only at hSw); go_simp; (try with_reducible rfl))
              (try simp only [Act.put, List.getElem_toArray, List.getElem_cons_zero, List.getElem_cons_succ, List.setIfInBounds_toArray, List.set_cons_zero, List.set_cons_succ])
              refine wpAnyH_ready (rs := [9]) (by kernel_rfl) (by simp) ?_
              refine AllReadyH.cons (o := ({ dst := some 57, op := Go.Op.call { callee := Go.Callee.value (Go.Operand.func 16), args := #[Go.Operand.tmp 56], argTypes := #[30] }, type := 3, pos := "law.go:81", after := #[{ on := 8, ground := Go.Ground.data }, { on := 7, ground := Go.Ground.chain }, { on := 7, ground := Go.Ground.guard }], guard := some (7, true) } : Go.Oper)) rfl (fun K hK => ?_) AllReadyH.nil
              go_simp
              (first | (go_at_call 18; go_must (refine (rpayload_any _ x _ (HBX6.out _ (X7.out.trans (by with_reducible (repeat (first | exact Ext.rfl_ _ | assumption | refine Ext.drew ?_ | refine Ext.drewN ?_ _ | refine Ext.alloc ?_ _ | refine Ext.trans ?_ (by assumption)))))) HMT.out).mono ?_); rintro e w8 ⟨v8, rfl, o8, hw8⟩; obtain ⟨A8, n8, c8, rfl, l8, r8, _⟩ := o8.formN; clear o8) | (go_at_call 17; go_must (refine (rput4_any A8 n8 c8 (payB x) _ (r8.ext (by with_reducible (repeat (first | exact Ext.rfl_ _ | assumption | refine Ext.drew ?_ | refine Ext.drewN ?_ _ | refine Ext.alloc ?_ _ | refine Ext.trans ?_ (by assumption))))) (by rw [← r8.1]; exact HPL.out)).mono ?_); rintro e w9 ⟨v9, rfl, o9, hw9⟩; rw [← HFB.out] at o9; obtain ⟨A9, n9, c9, rfl, l9, r9, _⟩ := o9.formN; have R9 := Lib.hid r9; clear o9 r9) | (go_at_call 16; refine (num_any _ _).mono ?_; rintro e wn ⟨rfl, rfl⟩) | (go_at_call 10; refine (known_any _).mono ?_; rintro e w10 ⟨rfl, hw10⟩))
              (try (go_wp2_with fail))
              refine hK.out _ _ (by (try dsimp only); exact HS7.out _ (by with_reducible (repeat (first | exact Ext.rfl_ _ | assumption | refine Ext.drew ?_ | refine Ext.drewN ?_ _ | refine Ext.alloc ?_ _ | refine Ext.setCell ?_ (by first | (simp; done) | (simp; omega)) _ | refine Ext.trans ?_ (by assumption))))) (fun hHeld => ?_)
              clear hK K
              (try simp only [Act.put, List.getElem_toArray, List.getElem_cons_zero, List.getElem_cons_succ, List.setIfInBounds_toArray, List.set_cons_zero, List.set_cons_succ])
              refine wpAnyH_take (i := 10) (oi := ({ dst := some 58, op := Go.Op.binOp Go.BinOp.eql 3 (Go.Operand.tmp 57) (Go.Operand.const (Go.Value.int Go.IntKind.i64 0)) 3, type := 4, pos := "law.go:81", after := #[{ on := 9, ground := Go.Ground.data }, { on := 7, ground := Go.Ground.guard }], guard := some (7, true) } : Go.Oper)) (v := ?v33) rfl (by kernel_rfl) (by kernel_rfl) (by kernel_rfl) (fun _ _ _ h => h) (Or.inl ⟨by rfl, ?hy33⟩) (by assumption) ?rest33
              case hy33 => (intro w hSw; (try dsimp only at hSw); go_simp; (try with_reducible rfl))
              (try simp only [Act.put, List.getElem_toArray, List.getElem_cons_zero, List.getElem_cons_succ, List.setIfInBounds_toArray, List.set_cons_zero, List.set_cons_succ])
              refine wpAnyH_take (i := 11) (oi := ({ dst := some 59, op := Go.Op.pick (Go.Operand.tmp 55) (Go.Operand.tmp 58) (Go.Operand.const (Go.Value.bool false)), type := 4, pos := "law.go:81", after := #[{ on := 7, ground := Go.Ground.data }, { on := 10, ground := Go.Ground.data }], guard := none } : Go.Oper)) (v := ?v34) rfl (by kernel_rfl) (by kernel_rfl) (by kernel_rfl) (fun _ _ _ h => h) (Or.inl ⟨by rfl, ?hy34⟩) (by assumption) ?rest34
              case hy34 => (intro w hSw; (try dsimp only at hSw); go_simp; (try with_reducible rfl))
              (try simp only [Act.put, List.getElem_toArray, List.getElem_cons_zero, List.getElem_cons_succ, List.setIfInBounds_toArray, List.set_cons_zero, List.set_cons_succ])
              refine wpAnyH_take (i := 12) (oi := ({ dst := some 60, op := Go.Op.move (Go.Operand.tmp 59), type := 4, pos := "law.go:81", after := #[{ on := 11, ground := Go.Ground.data }, { on := 9, ground := Go.Ground.chain }], guard := none } : Go.Oper)) (v := ?v35) rfl (by kernel_rfl) (by kernel_rfl) (by kernel_rfl) (fun _ _ _ h => h) (Or.inl ⟨by rfl, ?hy35⟩) (by assumption) ?rest35
              case hy35 => (intro w hSw; (try dsimp only at hSw); go_simp; (try with_reducible rfl))
              (try simp only [Act.put, List.getElem_toArray, List.getElem_cons_zero, List.getElem_cons_succ, List.setIfInBounds_toArray, List.set_cons_zero, List.set_cons_succ])
              refine wpAnyH_ready (rs := [13]) (by kernel_rfl) (by simp) ?_
              refine AllReadyH.cons (o := ({ dst := some 61, op := Go.Op.call { callee := Go.Callee.value (Go.Operand.func 10), args := #[], argTypes := #[] }, type := 4, pos := "law.go:81", after := #[{ on := 12, ground := Go.Ground.chain }, { on := 12, ground := Go.Ground.guard }], guard := some (12, true) } : Go.Oper)) rfl (fun K hK => ?_) AllReadyH.nil
              go_simp
              (first | (go_at_call 18; go_must (refine (rpayload_any _ x _ (HBX6.out _ (X7.out.trans (by with_reducible (repeat (first | exact Ext.rfl_ _ | assumption | refine Ext.drew ?_ | refine Ext.drewN ?_ _ | refine Ext.alloc ?_ _ | refine Ext.trans ?_ (by assumption)))))) HMT.out).mono ?_); rintro e w8 ⟨v8, rfl, o8, hw8⟩; obtain ⟨A8, n8, c8, rfl, l8, r8, _⟩ := o8.formN; clear o8) | (go_at_call 17; go_must (refine (rput4_any A8 n8 c8 (payB x) _ (r8.ext (by with_reducible (repeat (first | exact Ext.rfl_ _ | assumption | refine Ext.drew ?_ | refine Ext.drewN ?_ _ | refine Ext.alloc ?_ _ | refine Ext.trans ?_ (by assumption))))) (by rw [← r8.1]; exact HPL.out)).mono ?_); rintro e w9 ⟨v9, rfl, o9, hw9⟩; rw [← HFB.out] at o9; obtain ⟨A9, n9, c9, rfl, l9, r9, _⟩ := o9.formN; have R9 := Lib.hid r9; clear o9 r9) | (go_at_call 16; refine (num_any _ _).mono ?_; rintro e wn ⟨rfl, rfl⟩) | (go_at_call 10; refine (known_any _).mono ?_; rintro e w10 ⟨rfl, hw10⟩))
              (try (go_wp2_with fail))
              refine hK.out _ _ (by (try dsimp only); exact HS7.out _ (by with_reducible (repeat (first | exact Ext.rfl_ _ | assumption | refine Ext.drew ?_ | refine Ext.drewN ?_ _ | refine Ext.alloc ?_ _ | refine Ext.setCell ?_ (by first | (simp; done) | (simp; omega)) _ | refine Ext.trans ?_ (by assumption))))) (fun hHeld => ?_)
              clear hK K
              (try simp only [Act.put, List.getElem_toArray, List.getElem_cons_zero, List.getElem_cons_succ, List.setIfInBounds_toArray, List.set_cons_zero, List.set_cons_succ])
              refine wpAnyH_take (i := 14) (oi := ({ dst := some 62, op := Go.Op.pick (Go.Operand.tmp 60) (Go.Operand.tmp 61) (Go.Operand.const (Go.Value.bool false)), type := 4, pos := "law.go:81", after := #[{ on := 12, ground := Go.Ground.data }, { on := 13, ground := Go.Ground.data }], guard := none } : Go.Oper)) (v := ?v36) rfl (by kernel_rfl) (by kernel_rfl) (by kernel_rfl) (fun _ _ _ h => h) (Or.inl ⟨by rfl, ?hy36⟩) (by assumption) ?rest36
              case hy36 => (intro w hSw; (try dsimp only at hSw); go_simp; (try with_reducible rfl))
              (try simp only [Act.put, List.getElem_toArray, List.getElem_cons_zero, List.getElem_cons_succ, List.setIfInBounds_toArray, List.set_cons_zero, List.set_cons_succ])
              refine wpAnyH_take (i := 15) (oi := ({ dst := some 2, op := Go.Op.assign (Go.Operand.tmp 62), type := 4, pos := "law.go:81", after := #[{ on := 14, ground := Go.Ground.data }, { on := 13, ground := Go.Ground.chain }, { on := 0, ground := Go.Ground.phase }, { on := 1, ground := Go.Ground.phase }, { on := 2, ground := Go.Ground.phase }, { on := 3, ground := Go.Ground.phase }, { on := 4, ground := Go.Ground.phase }, { on := 5, ground := Go.Ground.phase }, { on := 6, ground := Go.Ground.phase }, { on := 7, ground := Go.Ground.phase }, { on := 8, ground := Go.Ground.phase }, { on := 9, ground := Go.Ground.phase }, { on := 10, ground := Go.Ground.phase }, { on := 11, ground := Go.Ground.phase }, { on := 12, ground := Go.Ground.phase }, { on := 13, ground := Go.Ground.phase }, { on := 14, ground := Go.Ground.phase }], guard := none } : Go.Oper)) (v := ?v37) rfl (by kernel_rfl) (by kernel_rfl) (by kernel_rfl) (fun _ _ _ h => h) (Or.inl ⟨by rfl, ?hy37⟩) (by assumption) ?rest37
              case hy37 => (intro w hSw; (try dsimp only at hSw); go_simp; (try with_reducible rfl))
              (try simp only [Act.put, List.getElem_toArray, List.getElem_cons_zero, List.getElem_cons_succ, List.setIfInBounds_toArray, List.set_cons_zero, List.set_cons_succ])
              refine wpAnyH_done (by kernel_rfl) ?_ _
            case' more29 =>
              refine AllReadyH.cons (o := ({ dst := some 52, op := Go.Op.call { callee := Go.Callee.value (Go.Operand.func 17), args := #[Go.Operand.tmp 51], argTypes := #[29] }, type := 29, pos := "law.go:81", after := #[{ on := 3, ground := Go.Ground.data }, { on := 3, ground := Go.Ground.chain }], guard := none } : Go.Oper)) rfl (fun K hK => ?_) AllReadyH.nil
              go_simp
              (first | (go_at_call 18; go_must (refine (rpayload_any _ x _ (HBX6.out _ (X7.out.trans (by with_reducible (repeat (first | exact Ext.rfl_ _ | assumption | refine Ext.drew ?_ | refine Ext.drewN ?_ _ | refine Ext.alloc ?_ _ | refine Ext.trans ?_ (by assumption)))))) HMT.out).mono ?_); rintro e w8 ⟨v8, rfl, o8, hw8⟩; obtain ⟨A8, n8, c8, rfl, l8, r8, _⟩ := o8.formN; clear o8) | (go_at_call 17; go_must (refine (rput4_any A8 n8 c8 (payB x) _ (r8.ext (by with_reducible (repeat (first | exact Ext.rfl_ _ | assumption | refine Ext.drew ?_ | refine Ext.drewN ?_ _ | refine Ext.alloc ?_ _ | refine Ext.trans ?_ (by assumption))))) (by rw [← r8.1]; exact HPL.out)).mono ?_); rintro e w9 ⟨v9, rfl, o9, hw9⟩; rw [← HFB.out] at o9; obtain ⟨A9, n9, c9, rfl, l9, r9, _⟩ := o9.formN; have R9 := Lib.hid r9; clear o9 r9) | (go_at_call 16; refine (num_any _ _).mono ?_; rintro e wn ⟨rfl, rfl⟩) | (go_at_call 10; refine (known_any _).mono ?_; rintro e w10 ⟨rfl, hw10⟩))
              (try (go_wp2_with fail))
              refine hK.out _ _ (by (try dsimp only); exact HS7.out _ (by with_reducible (repeat (first | exact Ext.rfl_ _ | assumption | refine Ext.drew ?_ | refine Ext.drewN ?_ _ | refine Ext.alloc ?_ _ | refine Ext.setCell ?_ (by first | (simp; done) | (simp; omega)) _ | refine Ext.trans ?_ (by assumption))))) (fun hHeld => ?_)
              clear hK K
              (try simp only [Act.put, List.getElem_toArray, List.getElem_cons_zero, List.getElem_cons_succ, List.setIfInBounds_toArray, List.set_cons_zero, List.set_cons_succ])
              refine wpAnyH_ready (rs := [1, 5]) (by kernel_rfl) (by simp) ?_
              refine AllReadyH.cons (o := ({ dst := some 49, op := Go.Op.convert 29 9 (Go.Operand.tmp 48), type := 9, pos := "law.go:81", after := #[{ on := 0, ground := Go.Ground.data }], guard := none } : Go.Oper)) rfl (fun K hK => ?one38) ?more38
              case' one38 =>
                go_simp; rw [Rd.str (P := Try.prog) (x := fb) (?_ : Rd _ A5 n5 (fb)) c5 29 5 9 Try.underlying29 Try.underlying5 Try.underlying9]; rotate_left; exact (R7.out.ext (by with_reducible (repeat (first | exact Ext.rfl_ _ | assumption | refine Ext.drew ?_ | refine Ext.drewN ?_ _ | refine Ext.alloc ?_ _ | refine Ext.trans ?_ (by assumption))))); simp only [Result.andThen]; go_simp
                refine hK.out _ _ (by (try dsimp only); exact HS7.out _ (by with_reducible (repeat (first | exact Ext.rfl_ _ | assumption | refine Ext.drew ?_ | refine Ext.drewN ?_ _ | refine Ext.alloc ?_ _ | refine Ext.setCell ?_ (by first | (simp; done) | (simp; omega)) _ | refine Ext.trans ?_ (by assumption))))) (fun hHeld => ?_)
                clear hK K
                (try simp only [Act.put, List.getElem_toArray, List.getElem_cons_zero, List.getElem_cons_succ, List.setIfInBounds_toArray, List.set_cons_zero, List.set_cons_succ])
                refine wpAnyH_ready (rs := [5]) (by kernel_rfl) (by simp) ?_
                refine AllReadyH.cons (o := ({ dst := some 53, op := Go.Op.convert 29 9 (Go.Operand.tmp 52), type := 9, pos := "law.go:81", after := #[{ on := 4, ground := Go.Ground.data }], guard := none } : Go.Oper)) rfl (fun K hK => ?_) AllReadyH.nil
                go_simp; rw [Rd.str (P := Try.prog) (x := fb) (?_ : Rd _ A9 n9 (fb)) c9 29 5 9 Try.underlying29 Try.underlying5 Try.underlying9]; rotate_left; exact (R9.out.ext (by with_reducible (repeat (first | exact Ext.rfl_ _ | assumption | refine Ext.drew ?_ | refine Ext.drewN ?_ _ | refine Ext.alloc ?_ _ | refine Ext.trans ?_ (by assumption))))); simp only [Result.andThen]; go_simp
                refine hK.out _ _ (by (try dsimp only); exact HS7.out _ (by with_reducible (repeat (first | exact Ext.rfl_ _ | assumption | refine Ext.drew ?_ | refine Ext.drewN ?_ _ | refine Ext.alloc ?_ _ | refine Ext.setCell ?_ (by first | (simp; done) | (simp; omega)) _ | refine Ext.trans ?_ (by assumption))))) (fun hHeld => ?_)
                clear hK K
                (try simp only [Act.put, List.getElem_toArray, List.getElem_cons_zero, List.getElem_cons_succ, List.setIfInBounds_toArray, List.set_cons_zero, List.set_cons_succ])
                refine wpAnyH_take (i := 6) (oi := ({ dst := some 54, op := Go.Op.binOp Go.BinOp.eql 9 (Go.Operand.tmp 49) (Go.Operand.tmp 53) 9, type := 4, pos := "law.go:81", after := #[{ on := 1, ground := Go.Ground.data }, { on := 5, ground := Go.Ground.data }], guard := none } : Go.Oper)) (v := ?v39) rfl (by kernel_rfl) (by kernel_rfl) (by kernel_rfl) (fun _ _ _ h => h) (Or.inl ⟨by rfl, ?hy39⟩) (by assumption) ?rest39
                case hy39 => (intro w hSw; (try dsimp only at hSw); go_simp; (try with_reducible rfl))
                (try simp only [Act.put, List.getElem_toArray, List.getElem_cons_zero, List.getElem_cons_succ, List.setIfInBounds_toArray, List.set_cons_zero, List.set_cons_succ])
                refine wpAnyH_take (i := 7) (oi := ({ dst := some 55, op := Go.Op.move (Go.Operand.tmp 54), type := 4, pos := "law.go:81", after := #[{ on := 6, ground := Go.Ground.data }, { on := 4, ground := Go.Ground.chain }], guard := none } : Go.Oper)) (v := ?v40) rfl (by kernel_rfl) (by kernel_rfl) (by kernel_rfl) (fun _ _ _ h => h) (Or.inl ⟨by rfl, ?hy40⟩) (by assumption) ?rest40
                case hy40 => (intro w hSw; (try dsimp only at hSw); go_simp; (try with_reducible rfl))
                (try simp only [Act.put, List.getElem_toArray, List.getElem_cons_zero, List.getElem_cons_succ, List.setIfInBounds_toArray, List.set_cons_zero, List.set_cons_succ])
                refine wpAnyH_take (i := 8) (oi := ({ dst := some 56, op := Go.Op.move (Go.Operand.tmp 5), type := 30, pos := "law.go:81", after := #[{ on := 7, ground := Go.Ground.guard }], guard := some (7, true) } : Go.Oper)) (v := ?v41) rfl (by kernel_rfl) (by kernel_rfl) (by kernel_rfl) (fun _ _ _ h => h) (Or.inl ⟨by rfl, ?hy41⟩) (by assumption) ?rest41
                case hy41 => (intro w hSw; (try dsimp only at hSw); go_simp; (try with_reducible rfl))
                (try simp only [Act.put, List.getElem_toArray, List.getElem_cons_zero, List.getElem_cons_succ, List.setIfInBounds_toArray, List.set_cons_zero, List.set_cons_succ])
                refine wpAnyH_ready (rs := [9]) (by kernel_rfl) (by simp) ?_
                refine AllReadyH.cons (o := ({ dst := some 57, op := Go.Op.call { callee := Go.Callee.value (Go.Operand.func 16), args := #[Go.Operand.tmp 56], argTypes := #[30] }, type := 3, pos := "law.go:81", after := #[{ on := 8, ground := Go.Ground.data }, { on := 7, ground := Go.Ground.chain }, { on := 7, ground := Go.Ground.guard }], guard := some (7, true) } : Go.Oper)) rfl (fun K hK => ?_) AllReadyH.nil
                go_simp
                (first | (go_at_call 18; go_must (refine (rpayload_any _ x _ (HBX6.out _ (X7.out.trans (by with_reducible (repeat (first | exact Ext.rfl_ _ | assumption | refine Ext.drew ?_ | refine Ext.drewN ?_ _ | refine Ext.alloc ?_ _ | refine Ext.trans ?_ (by assumption)))))) HMT.out).mono ?_); rintro e w8 ⟨v8, rfl, o8, hw8⟩; obtain ⟨A8, n8, c8, rfl, l8, r8, _⟩ := o8.formN; clear o8) | (go_at_call 17; go_must (refine (rput4_any A8 n8 c8 (payB x) _ (r8.ext (by with_reducible (repeat (first | exact Ext.rfl_ _ | assumption | refine Ext.drew ?_ | refine Ext.drewN ?_ _ | refine Ext.alloc ?_ _ | refine Ext.trans ?_ (by assumption))))) (by rw [← r8.1]; exact HPL.out)).mono ?_); rintro e w9 ⟨v9, rfl, o9, hw9⟩; rw [← HFB.out] at o9; obtain ⟨A9, n9, c9, rfl, l9, r9, _⟩ := o9.formN; have R9 := Lib.hid r9; clear o9 r9) | (go_at_call 16; refine (num_any _ _).mono ?_; rintro e wn ⟨rfl, rfl⟩) | (go_at_call 10; refine (known_any _).mono ?_; rintro e w10 ⟨rfl, hw10⟩))
                (try (go_wp2_with fail))
                refine hK.out _ _ (by (try dsimp only); exact HS7.out _ (by with_reducible (repeat (first | exact Ext.rfl_ _ | assumption | refine Ext.drew ?_ | refine Ext.drewN ?_ _ | refine Ext.alloc ?_ _ | refine Ext.setCell ?_ (by first | (simp; done) | (simp; omega)) _ | refine Ext.trans ?_ (by assumption))))) (fun hHeld => ?_)
                clear hK K
                (try simp only [Act.put, List.getElem_toArray, List.getElem_cons_zero, List.getElem_cons_succ, List.setIfInBounds_toArray, List.set_cons_zero, List.set_cons_succ])
                refine wpAnyH_take (i := 10) (oi := ({ dst := some 58, op := Go.Op.binOp Go.BinOp.eql 3 (Go.Operand.tmp 57) (Go.Operand.const (Go.Value.int Go.IntKind.i64 0)) 3, type := 4, pos := "law.go:81", after := #[{ on := 9, ground := Go.Ground.data }, { on := 7, ground := Go.Ground.guard }], guard := some (7, true) } : Go.Oper)) (v := ?v42) rfl (by kernel_rfl) (by kernel_rfl) (by kernel_rfl) (fun _ _ _ h => h) (Or.inl ⟨by rfl, ?hy42⟩) (by assumption) ?rest42
                case hy42 => (intro w hSw; (try dsimp only at hSw); go_simp; (try with_reducible rfl))
                (try simp only [Act.put, List.getElem_toArray, List.getElem_cons_zero, List.getElem_cons_succ, List.setIfInBounds_toArray, List.set_cons_zero, List.set_cons_succ])
                refine wpAnyH_take (i := 11) (oi := ({ dst := some 59, op := Go.Op.pick (Go.Operand.tmp 55) (Go.Operand.tmp 58) (Go.Operand.const (Go.Value.bool false)), type := 4, pos := "law.go:81", after := #[{ on := 7, ground := Go.Ground.data }, { on := 10, ground := Go.Ground.data }], guard := none } : Go.Oper)) (v := ?v43) rfl (by kernel_rfl) (by kernel_rfl) (by kernel_rfl) (fun _ _ _ h => h) (Or.inl ⟨by rfl, ?hy43⟩) (by assumption) ?rest43
                case hy43 => (intro w hSw; (try dsimp only at hSw); go_simp; (try with_reducible rfl))
                (try simp only [Act.put, List.getElem_toArray, List.getElem_cons_zero, List.getElem_cons_succ, List.setIfInBounds_toArray, List.set_cons_zero, List.set_cons_succ])
                refine wpAnyH_take (i := 12) (oi := ({ dst := some 60, op := Go.Op.move (Go.Operand.tmp 59), type := 4, pos := "law.go:81", after := #[{ on := 11, ground := Go.Ground.data }, { on := 9, ground := Go.Ground.chain }], guard := none } : Go.Oper)) (v := ?v44) rfl (by kernel_rfl) (by kernel_rfl) (by kernel_rfl) (fun _ _ _ h => h) (Or.inl ⟨by rfl, ?hy44⟩) (by assumption) ?rest44
                case hy44 => (intro w hSw; (try dsimp only at hSw); go_simp; (try with_reducible rfl))
                (try simp only [Act.put, List.getElem_toArray, List.getElem_cons_zero, List.getElem_cons_succ, List.setIfInBounds_toArray, List.set_cons_zero, List.set_cons_succ])
                refine wpAnyH_ready (rs := [13]) (by kernel_rfl) (by simp) ?_
                refine AllReadyH.cons (o := ({ dst := some 61, op := Go.Op.call { callee := Go.Callee.value (Go.Operand.func 10), args := #[], argTypes := #[] }, type := 4, pos := "law.go:81", after := #[{ on := 12, ground := Go.Ground.chain }, { on := 12, ground := Go.Ground.guard }], guard := some (12, true) } : Go.Oper)) rfl (fun K hK => ?_) AllReadyH.nil
                go_simp
                (first | (go_at_call 18; go_must (refine (rpayload_any _ x _ (HBX6.out _ (X7.out.trans (by with_reducible (repeat (first | exact Ext.rfl_ _ | assumption | refine Ext.drew ?_ | refine Ext.drewN ?_ _ | refine Ext.alloc ?_ _ | refine Ext.trans ?_ (by assumption)))))) HMT.out).mono ?_); rintro e w8 ⟨v8, rfl, o8, hw8⟩; obtain ⟨A8, n8, c8, rfl, l8, r8, _⟩ := o8.formN; clear o8) | (go_at_call 17; go_must (refine (rput4_any A8 n8 c8 (payB x) _ (r8.ext (by with_reducible (repeat (first | exact Ext.rfl_ _ | assumption | refine Ext.drew ?_ | refine Ext.drewN ?_ _ | refine Ext.alloc ?_ _ | refine Ext.trans ?_ (by assumption))))) (by rw [← r8.1]; exact HPL.out)).mono ?_); rintro e w9 ⟨v9, rfl, o9, hw9⟩; rw [← HFB.out] at o9; obtain ⟨A9, n9, c9, rfl, l9, r9, _⟩ := o9.formN; have R9 := Lib.hid r9; clear o9 r9) | (go_at_call 16; refine (num_any _ _).mono ?_; rintro e wn ⟨rfl, rfl⟩) | (go_at_call 10; refine (known_any _).mono ?_; rintro e w10 ⟨rfl, hw10⟩))
                (try (go_wp2_with fail))
                refine hK.out _ _ (by (try dsimp only); exact HS7.out _ (by with_reducible (repeat (first | exact Ext.rfl_ _ | assumption | refine Ext.drew ?_ | refine Ext.drewN ?_ _ | refine Ext.alloc ?_ _ | refine Ext.setCell ?_ (by first | (simp; done) | (simp; omega)) _ | refine Ext.trans ?_ (by assumption))))) (fun hHeld => ?_)
                clear hK K
                (try simp only [Act.put, List.getElem_toArray, List.getElem_cons_zero, List.getElem_cons_succ, List.setIfInBounds_toArray, List.set_cons_zero, List.set_cons_succ])
                refine wpAnyH_take (i := 14) (oi := ({ dst := some 62, op := Go.Op.pick (Go.Operand.tmp 60) (Go.Operand.tmp 61) (Go.Operand.const (Go.Value.bool false)), type := 4, pos := "law.go:81", after := #[{ on := 12, ground := Go.Ground.data }, { on := 13, ground := Go.Ground.data }], guard := none } : Go.Oper)) (v := ?v45) rfl (by kernel_rfl) (by kernel_rfl) (by kernel_rfl) (fun _ _ _ h => h) (Or.inl ⟨by rfl, ?hy45⟩) (by assumption) ?rest45
                case hy45 => (intro w hSw; (try dsimp only at hSw); go_simp; (try with_reducible rfl))
                (try simp only [Act.put, List.getElem_toArray, List.getElem_cons_zero, List.getElem_cons_succ, List.setIfInBounds_toArray, List.set_cons_zero, List.set_cons_succ])
                refine wpAnyH_take (i := 15) (oi := ({ dst := some 2, op := Go.Op.assign (Go.Operand.tmp 62), type := 4, pos := "law.go:81", after := #[{ on := 14, ground := Go.Ground.data }, { on := 13, ground := Go.Ground.chain }, { on := 0, ground := Go.Ground.phase }, { on := 1, ground := Go.Ground.phase }, { on := 2, ground := Go.Ground.phase }, { on := 3, ground := Go.Ground.phase }, { on := 4, ground := Go.Ground.phase }, { on := 5, ground := Go.Ground.phase }, { on := 6, ground := Go.Ground.phase }, { on := 7, ground := Go.Ground.phase }, { on := 8, ground := Go.Ground.phase }, { on := 9, ground := Go.Ground.phase }, { on := 10, ground := Go.Ground.phase }, { on := 11, ground := Go.Ground.phase }, { on := 12, ground := Go.Ground.phase }, { on := 13, ground := Go.Ground.phase }, { on := 14, ground := Go.Ground.phase }], guard := none } : Go.Oper)) (v := ?v46) rfl (by kernel_rfl) (by kernel_rfl) (by kernel_rfl) (fun _ _ _ h => h) (Or.inl ⟨by rfl, ?hy46⟩) (by assumption) ?rest46
                case hy46 => (intro w hSw; (try dsimp only at hSw); go_simp; (try with_reducible rfl))
                (try simp only [Act.put, List.getElem_toArray, List.getElem_cons_zero, List.getElem_cons_succ, List.setIfInBounds_toArray, List.set_cons_zero, List.set_cons_succ])
                refine wpAnyH_done (by kernel_rfl) ?_ _
              case' more38 =>
                refine AllReadyH.cons (o := ({ dst := some 53, op := Go.Op.convert 29 9 (Go.Operand.tmp 52), type := 9, pos := "law.go:81", after := #[{ on := 4, ground := Go.Ground.data }], guard := none } : Go.Oper)) rfl (fun K hK => ?_) AllReadyH.nil
                go_simp; rw [Rd.str (P := Try.prog) (x := fb) (?_ : Rd _ A9 n9 (fb)) c9 29 5 9 Try.underlying29 Try.underlying5 Try.underlying9]; rotate_left; exact (R9.out.ext (by with_reducible (repeat (first | exact Ext.rfl_ _ | assumption | refine Ext.drew ?_ | refine Ext.drewN ?_ _ | refine Ext.alloc ?_ _ | refine Ext.trans ?_ (by assumption))))); simp only [Result.andThen]; go_simp
                refine hK.out _ _ (by (try dsimp only); exact HS7.out _ (by with_reducible (repeat (first | exact Ext.rfl_ _ | assumption | refine Ext.drew ?_ | refine Ext.drewN ?_ _ | refine Ext.alloc ?_ _ | refine Ext.setCell ?_ (by first | (simp; done) | (simp; omega)) _ | refine Ext.trans ?_ (by assumption))))) (fun hHeld => ?_)
                clear hK K
                (try simp only [Act.put, List.getElem_toArray, List.getElem_cons_zero, List.getElem_cons_succ, List.setIfInBounds_toArray, List.set_cons_zero, List.set_cons_succ])
                refine wpAnyH_ready (rs := [1]) (by kernel_rfl) (by simp) ?_
                refine AllReadyH.cons (o := ({ dst := some 49, op := Go.Op.convert 29 9 (Go.Operand.tmp 48), type := 9, pos := "law.go:81", after := #[{ on := 0, ground := Go.Ground.data }], guard := none } : Go.Oper)) rfl (fun K hK => ?_) AllReadyH.nil
                go_simp; rw [Rd.str (P := Try.prog) (x := fb) (?_ : Rd _ A5 n5 (fb)) c5 29 5 9 Try.underlying29 Try.underlying5 Try.underlying9]; rotate_left; exact (R7.out.ext (by with_reducible (repeat (first | exact Ext.rfl_ _ | assumption | refine Ext.drew ?_ | refine Ext.drewN ?_ _ | refine Ext.alloc ?_ _ | refine Ext.trans ?_ (by assumption))))); simp only [Result.andThen]; go_simp
                refine hK.out _ _ (by (try dsimp only); exact HS7.out _ (by with_reducible (repeat (first | exact Ext.rfl_ _ | assumption | refine Ext.drew ?_ | refine Ext.drewN ?_ _ | refine Ext.alloc ?_ _ | refine Ext.setCell ?_ (by first | (simp; done) | (simp; omega)) _ | refine Ext.trans ?_ (by assumption))))) (fun hHeld => ?_)
                clear hK K
                (try simp only [Act.put, List.getElem_toArray, List.getElem_cons_zero, List.getElem_cons_succ, List.setIfInBounds_toArray, List.set_cons_zero, List.set_cons_succ])
                refine wpAnyH_take (i := 6) (oi := ({ dst := some 54, op := Go.Op.binOp Go.BinOp.eql 9 (Go.Operand.tmp 49) (Go.Operand.tmp 53) 9, type := 4, pos := "law.go:81", after := #[{ on := 1, ground := Go.Ground.data }, { on := 5, ground := Go.Ground.data }], guard := none } : Go.Oper)) (v := ?v47) rfl (by kernel_rfl) (by kernel_rfl) (by kernel_rfl) (fun _ _ _ h => h) (Or.inl ⟨by rfl, ?hy47⟩) (by assumption) ?rest47
                case hy47 => (intro w hSw; (try dsimp only at hSw); go_simp; (try with_reducible rfl))
                (try simp only [Act.put, List.getElem_toArray, List.getElem_cons_zero, List.getElem_cons_succ, List.setIfInBounds_toArray, List.set_cons_zero, List.set_cons_succ])
                refine wpAnyH_take (i := 7) (oi := ({ dst := some 55, op := Go.Op.move (Go.Operand.tmp 54), type := 4, pos := "law.go:81", after := #[{ on := 6, ground := Go.Ground.data }, { on := 4, ground := Go.Ground.chain }], guard := none } : Go.Oper)) (v := ?v48) rfl (by kernel_rfl) (by kernel_rfl) (by kernel_rfl) (fun _ _ _ h => h) (Or.inl ⟨by rfl, ?hy48⟩) (by assumption) ?rest48
                case hy48 => (intro w hSw; (try dsimp only at hSw); go_simp; (try with_reducible rfl))
                (try simp only [Act.put, List.getElem_toArray, List.getElem_cons_zero, List.getElem_cons_succ, List.setIfInBounds_toArray, List.set_cons_zero, List.set_cons_succ])
                refine wpAnyH_take (i := 8) (oi := ({ dst := some 56, op := Go.Op.move (Go.Operand.tmp 5), type := 30, pos := "law.go:81", after := #[{ on := 7, ground := Go.Ground.guard }], guard := some (7, true) } : Go.Oper)) (v := ?v49) rfl (by kernel_rfl) (by kernel_rfl) (by kernel_rfl) (fun _ _ _ h => h) (Or.inl ⟨by rfl, ?hy49⟩) (by assumption) ?rest49
                case hy49 => (intro w hSw; (try dsimp only at hSw); go_simp; (try with_reducible rfl))
                (try simp only [Act.put, List.getElem_toArray, List.getElem_cons_zero, List.getElem_cons_succ, List.setIfInBounds_toArray, List.set_cons_zero, List.set_cons_succ])
                refine wpAnyH_ready (rs := [9]) (by kernel_rfl) (by simp) ?_
                refine AllReadyH.cons (o := ({ dst := some 57, op := Go.Op.call { callee := Go.Callee.value (Go.Operand.func 16), args := #[Go.Operand.tmp 56], argTypes := #[30] }, type := 3, pos := "law.go:81", after := #[{ on := 8, ground := Go.Ground.data }, { on := 7, ground := Go.Ground.chain }, { on := 7, ground := Go.Ground.guard }], guard := some (7, true) } : Go.Oper)) rfl (fun K hK => ?_) AllReadyH.nil
                go_simp
                (first | (go_at_call 18; go_must (refine (rpayload_any _ x _ (HBX6.out _ (X7.out.trans (by with_reducible (repeat (first | exact Ext.rfl_ _ | assumption | refine Ext.drew ?_ | refine Ext.drewN ?_ _ | refine Ext.alloc ?_ _ | refine Ext.trans ?_ (by assumption)))))) HMT.out).mono ?_); rintro e w8 ⟨v8, rfl, o8, hw8⟩; obtain ⟨A8, n8, c8, rfl, l8, r8, _⟩ := o8.formN; clear o8) | (go_at_call 17; go_must (refine (rput4_any A8 n8 c8 (payB x) _ (r8.ext (by with_reducible (repeat (first | exact Ext.rfl_ _ | assumption | refine Ext.drew ?_ | refine Ext.drewN ?_ _ | refine Ext.alloc ?_ _ | refine Ext.trans ?_ (by assumption))))) (by rw [← r8.1]; exact HPL.out)).mono ?_); rintro e w9 ⟨v9, rfl, o9, hw9⟩; rw [← HFB.out] at o9; obtain ⟨A9, n9, c9, rfl, l9, r9, _⟩ := o9.formN; have R9 := Lib.hid r9; clear o9 r9) | (go_at_call 16; refine (num_any _ _).mono ?_; rintro e wn ⟨rfl, rfl⟩) | (go_at_call 10; refine (known_any _).mono ?_; rintro e w10 ⟨rfl, hw10⟩))
                (try (go_wp2_with fail))
                refine hK.out _ _ (by (try dsimp only); exact HS7.out _ (by with_reducible (repeat (first | exact Ext.rfl_ _ | assumption | refine Ext.drew ?_ | refine Ext.drewN ?_ _ | refine Ext.alloc ?_ _ | refine Ext.setCell ?_ (by first | (simp; done) | (simp; omega)) _ | refine Ext.trans ?_ (by assumption))))) (fun hHeld => ?_)
                clear hK K
                (try simp only [Act.put, List.getElem_toArray, List.getElem_cons_zero, List.getElem_cons_succ, List.setIfInBounds_toArray, List.set_cons_zero, List.set_cons_succ])
                refine wpAnyH_take (i := 10) (oi := ({ dst := some 58, op := Go.Op.binOp Go.BinOp.eql 3 (Go.Operand.tmp 57) (Go.Operand.const (Go.Value.int Go.IntKind.i64 0)) 3, type := 4, pos := "law.go:81", after := #[{ on := 9, ground := Go.Ground.data }, { on := 7, ground := Go.Ground.guard }], guard := some (7, true) } : Go.Oper)) (v := ?v50) rfl (by kernel_rfl) (by kernel_rfl) (by kernel_rfl) (fun _ _ _ h => h) (Or.inl ⟨by rfl, ?hy50⟩) (by assumption) ?rest50
                case hy50 => (intro w hSw; (try dsimp only at hSw); go_simp; (try with_reducible rfl))
                (try simp only [Act.put, List.getElem_toArray, List.getElem_cons_zero, List.getElem_cons_succ, List.setIfInBounds_toArray, List.set_cons_zero, List.set_cons_succ])
                refine wpAnyH_take (i := 11) (oi := ({ dst := some 59, op := Go.Op.pick (Go.Operand.tmp 55) (Go.Operand.tmp 58) (Go.Operand.const (Go.Value.bool false)), type := 4, pos := "law.go:81", after := #[{ on := 7, ground := Go.Ground.data }, { on := 10, ground := Go.Ground.data }], guard := none } : Go.Oper)) (v := ?v51) rfl (by kernel_rfl) (by kernel_rfl) (by kernel_rfl) (fun _ _ _ h => h) (Or.inl ⟨by rfl, ?hy51⟩) (by assumption) ?rest51
                case hy51 => (intro w hSw; (try dsimp only at hSw); go_simp; (try with_reducible rfl))
                (try simp only [Act.put, List.getElem_toArray, List.getElem_cons_zero, List.getElem_cons_succ, List.setIfInBounds_toArray, List.set_cons_zero, List.set_cons_succ])
                refine wpAnyH_take (i := 12) (oi := ({ dst := some 60, op := Go.Op.move (Go.Operand.tmp 59), type := 4, pos := "law.go:81", after := #[{ on := 11, ground := Go.Ground.data }, { on := 9, ground := Go.Ground.chain }], guard := none } : Go.Oper)) (v := ?v52) rfl (by kernel_rfl) (by kernel_rfl) (by kernel_rfl) (fun _ _ _ h => h) (Or.inl ⟨by rfl, ?hy52⟩) (by assumption) ?rest52
                case hy52 => (intro w hSw; (try dsimp only at hSw); go_simp; (try with_reducible rfl))
                (try simp only [Act.put, List.getElem_toArray, List.getElem_cons_zero, List.getElem_cons_succ, List.setIfInBounds_toArray, List.set_cons_zero, List.set_cons_succ])
                refine wpAnyH_ready (rs := [13]) (by kernel_rfl) (by simp) ?_
                refine AllReadyH.cons (o := ({ dst := some 61, op := Go.Op.call { callee := Go.Callee.value (Go.Operand.func 10), args := #[], argTypes := #[] }, type := 4, pos := "law.go:81", after := #[{ on := 12, ground := Go.Ground.chain }, { on := 12, ground := Go.Ground.guard }], guard := some (12, true) } : Go.Oper)) rfl (fun K hK => ?_) AllReadyH.nil
                go_simp
                (first | (go_at_call 18; go_must (refine (rpayload_any _ x _ (HBX6.out _ (X7.out.trans (by with_reducible (repeat (first | exact Ext.rfl_ _ | assumption | refine Ext.drew ?_ | refine Ext.drewN ?_ _ | refine Ext.alloc ?_ _ | refine Ext.trans ?_ (by assumption)))))) HMT.out).mono ?_); rintro e w8 ⟨v8, rfl, o8, hw8⟩; obtain ⟨A8, n8, c8, rfl, l8, r8, _⟩ := o8.formN; clear o8) | (go_at_call 17; go_must (refine (rput4_any A8 n8 c8 (payB x) _ (r8.ext (by with_reducible (repeat (first | exact Ext.rfl_ _ | assumption | refine Ext.drew ?_ | refine Ext.drewN ?_ _ | refine Ext.alloc ?_ _ | refine Ext.trans ?_ (by assumption))))) (by rw [← r8.1]; exact HPL.out)).mono ?_); rintro e w9 ⟨v9, rfl, o9, hw9⟩; rw [← HFB.out] at o9; obtain ⟨A9, n9, c9, rfl, l9, r9, _⟩ := o9.formN; have R9 := Lib.hid r9; clear o9 r9) | (go_at_call 16; refine (num_any _ _).mono ?_; rintro e wn ⟨rfl, rfl⟩) | (go_at_call 10; refine (known_any _).mono ?_; rintro e w10 ⟨rfl, hw10⟩))
                (try (go_wp2_with fail))
                refine hK.out _ _ (by (try dsimp only); exact HS7.out _ (by with_reducible (repeat (first | exact Ext.rfl_ _ | assumption | refine Ext.drew ?_ | refine Ext.drewN ?_ _ | refine Ext.alloc ?_ _ | refine Ext.setCell ?_ (by first | (simp; done) | (simp; omega)) _ | refine Ext.trans ?_ (by assumption))))) (fun hHeld => ?_)
                clear hK K
                (try simp only [Act.put, List.getElem_toArray, List.getElem_cons_zero, List.getElem_cons_succ, List.setIfInBounds_toArray, List.set_cons_zero, List.set_cons_succ])
                refine wpAnyH_take (i := 14) (oi := ({ dst := some 62, op := Go.Op.pick (Go.Operand.tmp 60) (Go.Operand.tmp 61) (Go.Operand.const (Go.Value.bool false)), type := 4, pos := "law.go:81", after := #[{ on := 12, ground := Go.Ground.data }, { on := 13, ground := Go.Ground.data }], guard := none } : Go.Oper)) (v := ?v53) rfl (by kernel_rfl) (by kernel_rfl) (by kernel_rfl) (fun _ _ _ h => h) (Or.inl ⟨by rfl, ?hy53⟩) (by assumption) ?rest53
                case hy53 => (intro w hSw; (try dsimp only at hSw); go_simp; (try with_reducible rfl))
                (try simp only [Act.put, List.getElem_toArray, List.getElem_cons_zero, List.getElem_cons_succ, List.setIfInBounds_toArray, List.set_cons_zero, List.set_cons_succ])
                refine wpAnyH_take (i := 15) (oi := ({ dst := some 2, op := Go.Op.assign (Go.Operand.tmp 62), type := 4, pos := "law.go:81", after := #[{ on := 14, ground := Go.Ground.data }, { on := 13, ground := Go.Ground.chain }, { on := 0, ground := Go.Ground.phase }, { on := 1, ground := Go.Ground.phase }, { on := 2, ground := Go.Ground.phase }, { on := 3, ground := Go.Ground.phase }, { on := 4, ground := Go.Ground.phase }, { on := 5, ground := Go.Ground.phase }, { on := 6, ground := Go.Ground.phase }, { on := 7, ground := Go.Ground.phase }, { on := 8, ground := Go.Ground.phase }, { on := 9, ground := Go.Ground.phase }, { on := 10, ground := Go.Ground.phase }, { on := 11, ground := Go.Ground.phase }, { on := 12, ground := Go.Ground.phase }, { on := 13, ground := Go.Ground.phase }, { on := 14, ground := Go.Ground.phase }], guard := none } : Go.Oper)) (v := ?v54) rfl (by kernel_rfl) (by kernel_rfl) (by kernel_rfl) (fun _ _ _ h => h) (Or.inl ⟨by rfl, ?hy54⟩) (by assumption) ?rest54
                case hy54 => (intro w hSw; (try dsimp only at hSw); go_simp; (try with_reducible rfl))
                (try simp only [Act.put, List.getElem_toArray, List.getElem_cons_zero, List.getElem_cons_succ, List.setIfInBounds_toArray, List.set_cons_zero, List.set_cons_succ])
                refine wpAnyH_done (by kernel_rfl) ?_ _
          all_goals
            go_wp2
            go_ret
            exact ⟨rfl, XA.out.trans (X7.out.trans (by with_reducible (repeat (first | exact Ext.rfl_ _ | assumption | refine Ext.drew ?_ | refine Ext.drewN ?_ _ | refine Ext.alloc ?_ _ | refine Ext.trans ?_ (by assumption)))))⟩

end Go.Proofs.Ythdahmicjlplcaa
