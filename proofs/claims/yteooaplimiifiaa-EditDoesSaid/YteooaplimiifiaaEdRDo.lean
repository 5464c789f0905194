/- The reference's Do. Conditions: both read, and are not too long. -/
import Derived.Test.YteooaplimiifiaaEdSrt
import Derived.Test.YteooaplimiifiaaEdDo
import Derived.Deep.CutBlock
namespace Go.Proofs.Yteooaplimiifiaa
set_option linter.unusedSimpArgs false
set_option linter.unusedVariables false
open Go.RowKit

def keptK (x : Ver) (y : Edt) (k : Nat) : List Tab := (x.ts.take k).filter (fun t => !decide (t.num ∈ y.drop))
theorem keptK_all (x : Ver) (y : Edt) : keptK x y x.ts.length = keptT x y := by unfold keptK keptT; rw [List.take_length]
theorem keptK_yes {x : Ver} {y : Edt} {k : Nat} {t : Tab} (h : x.ts[k]? = some t) (hm : t.num ∈ y.drop) : keptK x y (k + 1) = keptK x y k ∧ foundT x y (k + 1) = foundT x y k + 1 := by
  have e : x.ts.take (k + 1) = x.ts.take k ++ [t] := by rw [List.take_add_one, h]; rfl
  unfold keptK foundT
  rw [e, List.filter_append, List.filter_append]
  simp [hm]
theorem keptK_no {x : Ver} {y : Edt} {k : Nat} {t : Tab} (h : x.ts[k]? = some t) (hm : t.num ∉ y.drop) : keptK x y (k + 1) = keptK x y k ++ [t] ∧ foundT x y (k + 1) = foundT x y k := by
  have e : x.ts.take (k + 1) = x.ts.take k ++ [t] := by rw [List.take_add_one, h]; rfl
  unfold keptK foundT
  rw [e, List.filter_append, List.filter_append]
  simp [hm]
theorem keptK_len (x : Ver) (y : Edt) (k : Nat) : (keptK x y k).length ≤ k := by
  unfold keptK
  exact Nat.le_trans (List.length_filter_le _ _) (by rw [List.length_take]; omega)
theorem foundT_le (x : Ver) (y : Edt) (k : Nat) : foundT x y k ≤ k := by
  unfold foundT
  exact Nat.le_trans (List.length_filter_le _ _) (by rw [List.length_take]; omega)

/-- What the reference's Do answers beside. -/
def RDoOk (x : Ver) (y : Edt) : Prop := foundT x y x.ts.length = y.drop.length ∧ x.next ≤ y.next ∧ x.log ≤ y.log ∧ x.index ≤ y.index ∧ x.seq ≤ y.seq ∧ MayT (outT y (srtT (keptT x y ++ y.add)))
noncomputable def rdoB (x : Ver) (y : Edt) : Bool := @decide (RDoOk x y) (Classical.propDecidable _)

theorem _root_.Go.World.grownBy.drew_ {a b : World} {row : Option Nat} (h : a.grownBy b row) : a.grownBy b.drew row := ⟨h.os, h.tape, h.output, h.size, h.block⟩
theorem rdoB_no {x : Ver} {y : Edt} (h : ¬ RDoOk x y) : rdoB x y = false := by unfold rdoB; exact @decide_eq_false _ (Classical.propDecidable _) h
theorem rdoB_may {x : Ver} {y : Edt} (h : foundT x y x.ts.length = y.drop.length ∧ x.next ≤ y.next ∧ x.log ≤ y.log ∧ x.index ≤ y.index ∧ x.seq ≤ y.seq) : rdoB x y = mayT (outT y (srtT (keptT x y ++ y.add))) := by
  by_cases hm : MayT (outT y (srtT (keptT x y ++ y.add)))
  · rw [← mayT_yes hm]; unfold rdoB; exact @decide_eq_true _ (Classical.propDecidable _) ⟨h.1, h.2.1, h.2.2.1, h.2.2.2.1, h.2.2.2.2, hm⟩
  · rw [← mayT_no hm]; exact rdoB_no fun k => hm k.2.2.2.2.2
theorem ownT_ver2 (y : Edt) {w : World} {base n c : Nat} {A : Option Addr} {S : List Tab} (h : OwnT w base (.slice A n c) S) (hb : S.length ≤ B47) :
    Hid (RdV w (.agg #[.int .i64 y.next, .int .i64 y.log, .int .i64 y.index, .int .i64 y.seq, .slice A n c]) (outT y S)) := by
  obtain ⟨_, _, e, h1, h2, _⟩ := h.form hb
  injection e with e1 e2 e3
  subst e1 e3 e2
  exact Lib.hid ⟨_, _, _, rfl, h2, h1⟩
theorem three_blocks (w : World) (o0 o1 o2 : Obj) : ((((w.alloc o0).alloc o1).alloc o2).heap[w.heap.size]? = some o0) ∧ ((((w.alloc o0).alloc o1).alloc o2).heap[w.heap.size + 1]? = some o1) ∧
    ((((w.alloc o0).alloc o1).alloc o2).heap[w.heap.size + 1 + 1]? = some o2) ∧ (((w.alloc o0).alloc o1).alloc o2).heap.size = w.heap.size + 3 := by
  have hp : ∀ (w : World) (o : Obj), (w.alloc o).heap = w.heap.push o := fun _ _ => rfl
  simp only [hp, Array.getElem?_push, Array.size_push]
  refine ⟨?_, ?_, ?_, trivial⟩ <;> (repeat (first | rfl | rw [if_neg (by omega)]))

set_option maxRecDepth 100000 in
set_option maxHeartbeats 8000000 in
theorem rdo_any (v e : Value) (x : Ver) (y : Edt) (w : World) (hv : RdV w v x) (he : RdEd w e y) (hsx : x.ts.length ≤ 100000) (hsd : y.drop.length ≤ 100000) (hsa : y.add.length ≤ 100000) :
    Calls Try.prog 11 #[v, e] w fun r w' => ∃ u, r = .returned (.tuple #[u, .bool (rdoB x y)]) ∧ RdV w' u (outT y (srtT (keptT x y ++ y.add))) ∧ Ext w w' := by
  obtain ⟨A, n, c, rfl, hl, hnc⟩ := hv
  obtain ⟨D, dn, dc, B, m, d, rfl, hd, hdc, ha, hmd⟩ := he
  obtain rfl : x.ts.length = n := hl.1
  obtain rfl : y.drop.length = dn := hd.1
  obtain rfl : y.add.length = m := ha.1
  have HL := Lib.hid hl
  have HD := Lib.hid hd
  have HA := Lib.hid ha
  clear hl hd ha
  obtain ⟨W0, hW0⟩ : ∃ W0, W0 = ((w.alloc (.cells #[.int .i64 x.next, .int .i64 x.log, .int .i64 x.index, .int .i64 x.seq, .slice A x.ts.length c] 24)).alloc
    (.cells #[.slice D y.drop.length dc, .slice B y.add.length d, .int .i64 y.next, .int .i64 y.log, .int .i64 y.index, .int .i64 y.seq] 29)).alloc
    (.cells #[.int .i64 0, .int .i64 0, .int .i64 0, .int .i64 0, .slice none 0 0] 24) := ⟨_, rfl⟩
  have X0 : Hid (Ext w W0) := Lib.hid (by rw [hW0]; exact (by with_reducible (repeat (first | exact Ext.rfl_ _ | assumption | refine Ext.drew ?_ | refine Ext.drewN ?_ _ | refine Ext.alloc ?_ _ | refine Ext.trans ?_ (by assumption)))))
  obtain ⟨h0, h1, h2, hsz⟩ := three_blocks w (.cells #[.int .i64 x.next, .int .i64 x.log, .int .i64 x.index, .int .i64 x.seq, .slice A x.ts.length c] 24)
    (.cells #[.slice D y.drop.length dc, .slice B y.add.length d, .int .i64 y.next, .int .i64 y.log, .int .i64 y.index, .int .i64 y.seq] 29)
    (.cells #[.int .i64 0, .int .i64 0, .int .i64 0, .int .i64 0, .slice none 0 0] 24)
  rw [← hW0] at h0 h1 h2 hsz
  have HB0 := Lib.hid h0
  have HB1 := Lib.hid h1
  have HB2 := Lib.hid h2
  have HSZ := Lib.hid hsz
  clear h0 h1 h2 hsz
  go_enter Try.func11, Try.ntmps11
  go_wp2
  rw [← hW0]
  clear hW0
  obtain ⟨q1, eq1⟩ : ∃ q, w.heap.size + 1 = q := ⟨_, rfl⟩
  rw [eq1] at HB1 HB2 ⊢
  obtain ⟨q2, eq2⟩ : ∃ q, q1 + 1 = q := ⟨_, rfl⟩
  rw [eq2] at HB2 ⊢
  have EQ : Hid (w.heap.size < q1 ∧ q1 < q2 ∧ q2 < W0.heap.size) := Lib.hid (by have := HSZ.out; omega)
  clear eq1 eq2 HSZ
  have HV := Lib.hid (show ∀ W, Ext W0 W → (W.cell? ⟨w.heap.size, 0, none⟩ = some (.int .i64 x.next) ∧ W.cell? ⟨w.heap.size, 1, none⟩ = some (.int .i64 x.log) ∧ W.cell? ⟨w.heap.size, 2, none⟩ = some (.int .i64 x.index) ∧ W.cell? ⟨w.heap.size, 3, none⟩ = some (.int .i64 x.seq) ∧ W.cell? ⟨w.heap.size, 4, none⟩ = some (.slice A x.ts.length c)) from fun W hW => by
    obtain ⟨a0, a1, a2, a3, a4, _⟩ := box5 HB0.out hW
    exact ⟨a0, a1, a2, a3, a4⟩)
  have HEB := Lib.hid (show ∀ W, Ext W0 W → (W.cell? ⟨q1, 0, none⟩ = some (.slice D y.drop.length dc) ∧ W.cell? ⟨q1, 1, none⟩ = some (.slice B y.add.length d) ∧ W.cell? ⟨q1, 2, none⟩ = some (.int .i64 y.next) ∧ W.cell? ⟨q1, 3, none⟩ = some (.int .i64 y.log) ∧ W.cell? ⟨q1, 4, none⟩ = some (.int .i64 y.index) ∧ W.cell? ⟨q1, 5, none⟩ = some (.int .i64 y.seq)) from fun W hW =>
    box6 (((Ext.below hW).block _ (Array.getElem?_eq_some_iff.1 HB1.out).1).trans HB1.out))
  go_loopw [6, 7, 8] (fun s f i wr => ∃ i' : Nat, i = .int .i64 i' ∧ f = .int .i64 (foundT x y i' : Nat) ∧ i' ≤ x.ts.length ∧ Ext W0 wr ∧ Hid (OwnT wr W0.heap.size s (keptK x y i'))) (fun _ _ i _ => x.ts.length - (intOf i).toNat)
  case atStart => exact ⟨0, rfl, by simp [foundT], Nat.zero_le _, Ext.rfl_ _, Lib.hid (by simpa [keptK] using OwnT.nil _ _)⟩
  case round =>
    obtain ⟨i, rfl, rfl, hi, hE, HO⟩ := hrel
    obtain ⟨wo, hwo⟩ : ∃ wo, wo = wr := ⟨_, rfl⟩
    subst hwo
    obtain ⟨a0, a1, a2, a3, a4⟩ := HV.out wo hE
    by_cases cc : (i : Int) < (x.ts.length : Int)
    rotate_left
    · have hii : i = x.ts.length := by omega
      subst hii
      have HO1 := HO.out
      rw [keptK_all] at HO1
      have HO2 := Lib.hid HO1
      have hkl : (keptT x y).length ≤ x.ts.length := by have := kept_found x y; omega
      have HRA := Lib.hid (HA.out.old wo (X0.out.trans hE) W0.heap.size X0.out.size)
      obtain ⟨y0, y1, y2, y3, y4, y5⟩ := HEB.out wo hE
      have HEW := Lib.hid hE
      have HFL := Lib.hid (foundT_le x y x.ts.length)
      clear HO HO1 hE
      go_upto_region 15 with (at_builtin; refine wp_appT rfl _ _ rfl W0.heap.size u6 (keptT x y) rfl (HO2.out.ext (by with_reducible (repeat (first | exact Ext.rfl_ _ | assumption | refine Ext.drew ?_ | refine Ext.drewN ?_ _ | refine Ext.alloc ?_ _ | refine Ext.trans ?_ (by assumption))))) B y.add.length d y.add rfl HRA.out (by unfold B40; omega) HEW.out.size ?_; intro v5 w5 h5 g5 _; have X5 : Ext W0 w5 := Ext.growT HEW.out g5 HO2.out (Nat.le_refl _); have HLN : Hid ((keptT x y ++ y.add).length ≤ 200000) := Lib.hid (by rw [List.length_append]; omega); obtain ⟨A5, n5, c5, rfl, hc5, hr5, _⟩ := h5.formN (by have := HLN.out; unfold B47; omega); have HR5 := Lib.hid hr5; clear h5 g5 hr5)
      have hn5 : n5 ≤ 200000 := by have h := HR5.out.1; have := HLN.out; omega
      clear y0 y1 y2 y3 y4 y5
      go_cut [11] from 56 (fun p wx => ∃ (o : Nat) (A6 : Option Addr) (n6 c6 base6 : Nat), p = .pointer (some ⟨o, 0, none⟩) ∧ W0.heap.size ≤ o ∧ n6 ≤ c6 ∧ wx.heap[o]? = some (.cells #[.int .i64 y.next, .int .i64 y.log, .int .i64 y.index, .int .i64 y.seq, .slice A6 n6 c6] 24 (0, 0)) ∧ Ext W0 wx ∧ OwnT wx base6 (.slice A6 n6 c6) (srtT (keptT x y ++ y.add)))
      case first =>
       go_wp2
       refine wp_region_held_drew (S := (fun W => W.cell? ⟨q1, 0, none⟩ = some (.slice D y.drop.length dc) ∧ W.cell? ⟨q1, 1, none⟩ = some (.slice B y.add.length d) ∧ W.cell? ⟨q1, 2, none⟩ = some (.int .i64 y.next) ∧ W.cell? ⟨q1, 3, none⟩ = some (.int .i64 y.log) ∧ W.cell? ⟨q1, 4, none⟩ = some (.int .i64 y.index) ∧ W.cell? ⟨q1, 5, none⟩ = some (.int .i64 y.seq))) (by kernel_rfl) (by (try dsimp only); exact HEB.out _ (by with_reducible (repeat (first | exact Ext.rfl_ _ | assumption | refine Ext.drew ?_ | refine Ext.drewN ?_ _ | refine Ext.alloc ?_ _ | refine Ext.setCell ?_ (by first | (simp; done) | (simp; omega)) _ | refine Ext.trans ?_ (by assumption))))) (fun hHeld => ?_)
       refine wpAnyH_take (i := 0) (oi := ({ dst := some 56, op := .fieldAddr 29 (.tmp 3) 2, type := 0, pos := "ref.go:104", after := #[], guard := none } : Go.Oper)) (v := ?v1) rfl (by kernel_rfl) (by kernel_rfl) (by kernel_rfl) (fun _ _ _ h => h) (Or.inl ⟨by rfl, ?hy1⟩) (by assumption) ?rest1
       case hy1 => (intro w hSw; (try dsimp only at hSw); go_simp; (try with_reducible rfl))
       (try simp only [Act.put, List.getElem_toArray, List.getElem_cons_zero, List.getElem_cons_succ, List.setIfInBounds_toArray, List.set_cons_zero, List.set_cons_succ])
       refine wpAnyH_take (i := 1) (oi := ({ dst := some 57, op := .load 2 (.tmp 56), type := 2, pos := "ref.go:104", after := #[⟨0, .data⟩], guard := none } : Go.Oper)) (v := ?v2) rfl (by kernel_rfl) (by kernel_rfl) (by kernel_rfl) (fun _ _ _ h => h) (Or.inl ⟨by rfl, ?hy2⟩) (by assumption) ?rest2
       case hy2 => (intro w hSw; (try dsimp only at hSw); go_simp; (try with_reducible rfl))
       (try simp only [Act.put, List.getElem_toArray, List.getElem_cons_zero, List.getElem_cons_succ, List.setIfInBounds_toArray, List.set_cons_zero, List.set_cons_succ])
       refine wpAnyH_take (i := 2) (oi := ({ dst := some 58, op := .fieldAddr 29 (.tmp 3) 3, type := 0, pos := "ref.go:104", after := #[], guard := none } : Go.Oper)) (v := ?v3) rfl (by kernel_rfl) (by kernel_rfl) (by kernel_rfl) (fun _ _ _ h => h) (Or.inl ⟨by rfl, ?hy3⟩) (by assumption) ?rest3
       case hy3 => (intro w hSw; (try dsimp only at hSw); go_simp; (try with_reducible rfl))
       (try simp only [Act.put, List.getElem_toArray, List.getElem_cons_zero, List.getElem_cons_succ, List.setIfInBounds_toArray, List.set_cons_zero, List.set_cons_succ])
       refine wpAnyH_take (i := 3) (oi := ({ dst := some 59, op := .load 2 (.tmp 58), type := 2, pos := "ref.go:104", after := #[⟨2, .data⟩], guard := none } : Go.Oper)) (v := ?v4) rfl (by kernel_rfl) (by kernel_rfl) (by kernel_rfl) (fun _ _ _ h => h) (Or.inl ⟨by rfl, ?hy4⟩) (by assumption) ?rest4
       case hy4 => (intro w hSw; (try dsimp only at hSw); go_simp; (try with_reducible rfl))
       (try simp only [Act.put, List.getElem_toArray, List.getElem_cons_zero, List.getElem_cons_succ, List.setIfInBounds_toArray, List.set_cons_zero, List.set_cons_succ])
       refine wpAnyH_take (i := 4) (oi := ({ dst := some 60, op := .fieldAddr 29 (.tmp 3) 4, type := 0, pos := "ref.go:104", after := #[], guard := none } : Go.Oper)) (v := ?v5) rfl (by kernel_rfl) (by kernel_rfl) (by kernel_rfl) (fun _ _ _ h => h) (Or.inl ⟨by rfl, ?hy5⟩) (by assumption) ?rest5
       case hy5 => (intro w hSw; (try dsimp only at hSw); go_simp; (try with_reducible rfl))
       (try simp only [Act.put, List.getElem_toArray, List.getElem_cons_zero, List.getElem_cons_succ, List.setIfInBounds_toArray, List.set_cons_zero, List.set_cons_succ])
       refine wpAnyH_take (i := 5) (oi := ({ dst := some 61, op := .load 2 (.tmp 60), type := 2, pos := "ref.go:104", after := #[⟨4, .data⟩], guard := none } : Go.Oper)) (v := ?v6) rfl (by kernel_rfl) (by kernel_rfl) (by kernel_rfl) (fun _ _ _ h => h) (Or.inl ⟨by rfl, ?hy6⟩) (by assumption) ?rest6
       case hy6 => (intro w hSw; (try dsimp only at hSw); go_simp; (try with_reducible rfl))
       (try simp only [Act.put, List.getElem_toArray, List.getElem_cons_zero, List.getElem_cons_succ, List.setIfInBounds_toArray, List.set_cons_zero, List.set_cons_succ])
       refine wpAnyH_take (i := 6) (oi := ({ dst := some 62, op := .fieldAddr 29 (.tmp 3) 5, type := 0, pos := "ref.go:104", after := #[], guard := none } : Go.Oper)) (v := ?v7) rfl (by kernel_rfl) (by kernel_rfl) (by kernel_rfl) (fun _ _ _ h => h) (Or.inl ⟨by rfl, ?hy7⟩) (by assumption) ?rest7
       case hy7 => (intro w hSw; (try dsimp only at hSw); go_simp; (try with_reducible rfl))
       (try simp only [Act.put, List.getElem_toArray, List.getElem_cons_zero, List.getElem_cons_succ, List.setIfInBounds_toArray, List.set_cons_zero, List.set_cons_succ])
       refine wpAnyH_take (i := 7) (oi := ({ dst := some 63, op := .load 2 (.tmp 62), type := 2, pos := "ref.go:104", after := #[⟨6, .data⟩], guard := none } : Go.Oper)) (v := ?v8) rfl (by kernel_rfl) (by kernel_rfl) (by kernel_rfl) (fun _ _ _ h => h) (Or.inl ⟨by rfl, ?hy8⟩) (by assumption) ?rest8
       case hy8 => (intro w hSw; (try dsimp only at hSw); go_simp; (try with_reducible rfl))
       (try simp only [Act.put, List.getElem_toArray, List.getElem_cons_zero, List.getElem_cons_succ, List.setIfInBounds_toArray, List.set_cons_zero, List.set_cons_succ])
       refine wpAnyH_take (i := 8) (oi := ({ dst := some 64, op := .move (.tmp 6), type := 22, pos := "ref.go:104", after := #[], guard := none } : Go.Oper)) (v := ?v9) rfl (by kernel_rfl) (by kernel_rfl) (by kernel_rfl) (fun _ _ _ h => h) (Or.inl ⟨by rfl, ?hy9⟩) (by assumption) ?rest9
       case hy9 => (intro w hSw; (try dsimp only at hSw); go_simp; (try with_reducible rfl))
       (try simp only [Act.put, List.getElem_toArray, List.getElem_cons_zero, List.getElem_cons_succ, List.setIfInBounds_toArray, List.set_cons_zero, List.set_cons_succ])
       refine wpAnyH_ready (rs := [9, 11]) (by kernel_rfl) (by simp) ?_
       refine AllReadyH.cons (o := ({ dst := some 65, op := .call { callee := .value (.func 28), args := #[.tmp 64], argTypes := #[22] }, type := 22, pos := "ref.go:104", after := #[⟨8, .data⟩], guard := none } : Go.Oper)) rfl (fun K hK => ?one10) ?more10
       case' one10 =>
         go_simp
         (go_at_call 28; refine (rsorted_any A5 n5 c5 (keptT x y ++ y.add) _ (HR5.out.ext (by with_reducible (repeat (first | exact Ext.rfl_ _ | assumption | refine Ext.drew ?_ | refine Ext.drewN ?_ _ | refine Ext.alloc ?_ _ | refine Ext.trans ?_ (by assumption))))) (by omega)).mono ?_; rintro e w6 ⟨v6, rfl, base6, hb6, ho6, hw6⟩; obtain ⟨A6, n6, c6, rfl, hc6, _⟩ := ho6.formN (by rw [srtT_len]; have := HLN.out; unfold B47; omega); have HO6 := Lib.hid ho6; (try (have HBO := Lib.hid (((Ext.below hw6).block _ (Array.getElem?_eq_some_iff.1 HBO.out).1).trans HBO.out); have HFI := Lib.hid (show Ext W0 w6 from (by with_reducible (repeat (first | exact Ext.rfl_ _ | assumption | refine Ext.drew ?_ | refine Ext.drewN ?_ _ | refine Ext.alloc ?_ _ | refine Ext.trans ?_ (by assumption))))))); clear ho6)
         (try (go_wp2_with fail))
         refine hK.out _ _ (by (try dsimp only); exact HEB.out _ (by with_reducible (repeat (first | exact Ext.rfl_ _ | assumption | refine Ext.drew ?_ | refine Ext.drewN ?_ _ | refine Ext.alloc ?_ _ | refine Ext.setCell ?_ (by first | (simp; done) | (simp; omega)) _ | refine Ext.trans ?_ (by assumption))))) (fun hHeld => ?_)
         clear hK K
         (try simp only [Act.put, List.getElem_toArray, List.getElem_cons_zero, List.getElem_cons_succ, List.setIfInBounds_toArray, List.set_cons_zero, List.set_cons_succ])
         refine wpAnyH_ready (rs := [10, 11]) (by kernel_rfl) (by simp) ?_
         refine AllReadyH.cons (o := ({ dst := some 66, op := .build 24 #[(0, .tmp 57), (1, .tmp 59), (2, .tmp 61), (3, .tmp 63), (4, .tmp 65)], type := 24, pos := "ref.go:104", after := #[⟨1, .data⟩, ⟨3, .data⟩, ⟨5, .data⟩, ⟨7, .data⟩, ⟨9, .data⟩], guard := none } : Go.Oper)) rfl (fun K hK => ?one11) ?more11
         case' one11 =>
           go_simp
           refine hK.out _ _ (by (try dsimp only); exact HEB.out _ (by with_reducible (repeat (first | exact Ext.rfl_ _ | assumption | refine Ext.drew ?_ | refine Ext.drewN ?_ _ | refine Ext.alloc ?_ _ | refine Ext.setCell ?_ (by first | (simp; done) | (simp; omega)) _ | refine Ext.trans ?_ (by assumption))))) (fun hHeld => ?_)
           clear hK K
           (try simp only [Act.put, List.getElem_toArray, List.getElem_cons_zero, List.getElem_cons_succ, List.setIfInBounds_toArray, List.set_cons_zero, List.set_cons_succ])
           refine wpAnyH_ready (rs := [11]) (by kernel_rfl) (by simp) ?_
           refine AllReadyH.cons (o := ({ dst := some 11, op := .alloc 24, type := 0, pos := "ref.go:104", after := #[], guard := none } : Go.Oper)) rfl (fun K hK => ?_) AllReadyH.nil
           go_simp; (first | (obtain ⟨o, ho⟩ : ∃ o, w6.heap.size = o := ⟨_, rfl⟩; have HBO := Lib.hid (heap_alloc_new w6 (.cells #[.int .i64 0, .int .i64 0, .int .i64 0, .int .i64 0, .slice none 0 0] 24)); rw [ho] at HBO ⊢; have zo : W0.heap.size ≤ o := (by rw [← ho]; exact Ext.size (show Ext W0 _ from (by with_reducible (repeat (first | exact Ext.rfl_ _ | assumption | refine Ext.drew ?_ | refine Ext.drewN ?_ _ | refine Ext.alloc ?_ _ | refine Ext.trans ?_ (by assumption)))))); clear ho; have HFI := Lib.hid (show Ext W0 (w6.alloc (.cells #[.int .i64 0, .int .i64 0, .int .i64 0, .int .i64 0, .slice none 0 0] 24)) from (by with_reducible (repeat (first | exact Ext.rfl_ _ | assumption | refine Ext.drew ?_ | refine Ext.drewN ?_ _ | refine Ext.alloc ?_ _ | refine Ext.trans ?_ (by assumption)))))) | (obtain ⟨o, ho⟩ : ∃ o, w5.heap.size = o := ⟨_, rfl⟩; have HBO := Lib.hid (heap_alloc_new w5 (.cells #[.int .i64 0, .int .i64 0, .int .i64 0, .int .i64 0, .slice none 0 0] 24)); rw [ho] at HBO ⊢; have zo : W0.heap.size ≤ o := (by rw [← ho]; exact Ext.size (show Ext W0 _ from (by with_reducible (repeat (first | exact Ext.rfl_ _ | assumption | refine Ext.drew ?_ | refine Ext.drewN ?_ _ | refine Ext.alloc ?_ _ | refine Ext.trans ?_ (by assumption)))))); clear ho; have HFI := Lib.hid (show Ext W0 (w5.alloc (.cells #[.int .i64 0, .int .i64 0, .int .i64 0, .int .i64 0, .slice none 0 0] 24)) from (by with_reducible (repeat (first | exact Ext.rfl_ _ | assumption | refine Ext.drew ?_ | refine Ext.drewN ?_ _ | refine Ext.alloc ?_ _ | refine Ext.trans ?_ (by assumption)))))))
           refine hK.out _ _ (by (try dsimp only); exact HEB.out _ (by with_reducible (repeat (first | exact Ext.rfl_ _ | assumption | refine Ext.drew ?_ | refine Ext.drewN ?_ _ | refine Ext.alloc ?_ _ | refine Ext.setCell ?_ (by first | (simp; done) | (simp; omega)) _ | refine Ext.trans ?_ (by assumption))))) (fun hHeld => ?_)
           clear hK K
           (try simp only [Act.put, List.getElem_toArray, List.getElem_cons_zero, List.getElem_cons_succ, List.setIfInBounds_toArray, List.set_cons_zero, List.set_cons_succ])
           refine wpAnyH_ready (rs := [12]) (by kernel_rfl) (by simp) ?_
           refine AllReadyH.cons (o := ({ dst := none, op := .store 24 (.tmp 11) (.tmp 66), type := 0, pos := "ref.go:104", after := #[⟨11, .data⟩, ⟨10, .data⟩, ⟨9, .chain⟩, ⟨0, .phase⟩, ⟨1, .phase⟩, ⟨2, .phase⟩, ⟨3, .phase⟩, ⟨4, .phase⟩, ⟨5, .phase⟩, ⟨6, .phase⟩, ⟨7, .phase⟩, ⟨8, .phase⟩, ⟨9, .phase⟩, ⟨10, .phase⟩, ⟨11, .phase⟩], guard := none } : Go.Oper)) rfl (fun K hK => ?_) AllReadyH.nil
           (try (obtain ⟨o0, o1, o2, o3, o4, p0, p1, p2, p3, p4⟩ := box5 HBO.out (Ext.rfl_ _))); go_simp
           refine hK.out _ _ (by (try dsimp only); exact HEB.out _ (by with_reducible (repeat (first | exact Ext.rfl_ _ | assumption | refine Ext.drew ?_ | refine Ext.drewN ?_ _ | refine Ext.alloc ?_ _ | refine Ext.setCell ?_ (by first | (simp; done) | (simp; omega)) _ | refine Ext.trans ?_ (by assumption))))) (fun hHeld => ?_)
           clear hK K
           (try simp only [Act.put, List.getElem_toArray, List.getElem_cons_zero, List.getElem_cons_succ, List.setIfInBounds_toArray, List.set_cons_zero, List.set_cons_succ])
           refine wpAnyH_done (by kernel_rfl) ?_ _
         case' more11 =>
           refine AllReadyH.cons (o := ({ dst := some 11, op := .alloc 24, type := 0, pos := "ref.go:104", after := #[], guard := none } : Go.Oper)) rfl (fun K hK => ?_) AllReadyH.nil
           go_simp; (first | (obtain ⟨o, ho⟩ : ∃ o, w6.heap.size = o := ⟨_, rfl⟩; have HBO := Lib.hid (heap_alloc_new w6 (.cells #[.int .i64 0, .int .i64 0, .int .i64 0, .int .i64 0, .slice none 0 0] 24)); rw [ho] at HBO ⊢; have zo : W0.heap.size ≤ o := (by rw [← ho]; exact Ext.size (show Ext W0 _ from (by with_reducible (repeat (first | exact Ext.rfl_ _ | assumption | refine Ext.drew ?_ | refine Ext.drewN ?_ _ | refine Ext.alloc ?_ _ | refine Ext.trans ?_ (by assumption)))))); clear ho; have HFI := Lib.hid (show Ext W0 (w6.alloc (.cells #[.int .i64 0, .int .i64 0, .int .i64 0, .int .i64 0, .slice none 0 0] 24)) from (by with_reducible (repeat (first | exact Ext.rfl_ _ | assumption | refine Ext.drew ?_ | refine Ext.drewN ?_ _ | refine Ext.alloc ?_ _ | refine Ext.trans ?_ (by assumption)))))) | (obtain ⟨o, ho⟩ : ∃ o, w5.heap.size = o := ⟨_, rfl⟩; have HBO := Lib.hid (heap_alloc_new w5 (.cells #[.int .i64 0, .int .i64 0, .int .i64 0, .int .i64 0, .slice none 0 0] 24)); rw [ho] at HBO ⊢; have zo : W0.heap.size ≤ o := (by rw [← ho]; exact Ext.size (show Ext W0 _ from (by with_reducible (repeat (first | exact Ext.rfl_ _ | assumption | refine Ext.drew ?_ | refine Ext.drewN ?_ _ | refine Ext.alloc ?_ _ | refine Ext.trans ?_ (by assumption)))))); clear ho; have HFI := Lib.hid (show Ext W0 (w5.alloc (.cells #[.int .i64 0, .int .i64 0, .int .i64 0, .int .i64 0, .slice none 0 0] 24)) from (by with_reducible (repeat (first | exact Ext.rfl_ _ | assumption | refine Ext.drew ?_ | refine Ext.drewN ?_ _ | refine Ext.alloc ?_ _ | refine Ext.trans ?_ (by assumption)))))))
           refine hK.out _ _ (by (try dsimp only); exact HEB.out _ (by with_reducible (repeat (first | exact Ext.rfl_ _ | assumption | refine Ext.drew ?_ | refine Ext.drewN ?_ _ | refine Ext.alloc ?_ _ | refine Ext.setCell ?_ (by first | (simp; done) | (simp; omega)) _ | refine Ext.trans ?_ (by assumption))))) (fun hHeld => ?_)
           clear hK K
           (try simp only [Act.put, List.getElem_toArray, List.getElem_cons_zero, List.getElem_cons_succ, List.setIfInBounds_toArray, List.set_cons_zero, List.set_cons_succ])
           refine wpAnyH_ready (rs := [10]) (by kernel_rfl) (by simp) ?_
           refine AllReadyH.cons (o := ({ dst := some 66, op := .build 24 #[(0, .tmp 57), (1, .tmp 59), (2, .tmp 61), (3, .tmp 63), (4, .tmp 65)], type := 24, pos := "ref.go:104", after := #[⟨1, .data⟩, ⟨3, .data⟩, ⟨5, .data⟩, ⟨7, .data⟩, ⟨9, .data⟩], guard := none } : Go.Oper)) rfl (fun K hK => ?_) AllReadyH.nil
           go_simp
           refine hK.out _ _ (by (try dsimp only); exact HEB.out _ (by with_reducible (repeat (first | exact Ext.rfl_ _ | assumption | refine Ext.drew ?_ | refine Ext.drewN ?_ _ | refine Ext.alloc ?_ _ | refine Ext.setCell ?_ (by first | (simp; done) | (simp; omega)) _ | refine Ext.trans ?_ (by assumption))))) (fun hHeld => ?_)
           clear hK K
           (try simp only [Act.put, List.getElem_toArray, List.getElem_cons_zero, List.getElem_cons_succ, List.setIfInBounds_toArray, List.set_cons_zero, List.set_cons_succ])
           refine wpAnyH_ready (rs := [12]) (by kernel_rfl) (by simp) ?_
           refine AllReadyH.cons (o := ({ dst := none, op := .store 24 (.tmp 11) (.tmp 66), type := 0, pos := "ref.go:104", after := #[⟨11, .data⟩, ⟨10, .data⟩, ⟨9, .chain⟩, ⟨0, .phase⟩, ⟨1, .phase⟩, ⟨2, .phase⟩, ⟨3, .phase⟩, ⟨4, .phase⟩, ⟨5, .phase⟩, ⟨6, .phase⟩, ⟨7, .phase⟩, ⟨8, .phase⟩, ⟨9, .phase⟩, ⟨10, .phase⟩, ⟨11, .phase⟩], guard := none } : Go.Oper)) rfl (fun K hK => ?_) AllReadyH.nil
           (try (obtain ⟨o0, o1, o2, o3, o4, p0, p1, p2, p3, p4⟩ := box5 HBO.out (Ext.rfl_ _))); go_simp
           refine hK.out _ _ (by (try dsimp only); exact HEB.out _ (by with_reducible (repeat (first | exact Ext.rfl_ _ | assumption | refine Ext.drew ?_ | refine Ext.drewN ?_ _ | refine Ext.alloc ?_ _ | refine Ext.setCell ?_ (by first | (simp; done) | (simp; omega)) _ | refine Ext.trans ?_ (by assumption))))) (fun hHeld => ?_)
           clear hK K
           (try simp only [Act.put, List.getElem_toArray, List.getElem_cons_zero, List.getElem_cons_succ, List.setIfInBounds_toArray, List.set_cons_zero, List.set_cons_succ])
           refine wpAnyH_done (by kernel_rfl) ?_ _
       case' more10 =>
         refine AllReadyH.cons (o := ({ dst := some 11, op := .alloc 24, type := 0, pos := "ref.go:104", after := #[], guard := none } : Go.Oper)) rfl (fun K hK => ?_) AllReadyH.nil
         go_simp; (first | (obtain ⟨o, ho⟩ : ∃ o, w6.heap.size = o := ⟨_, rfl⟩; have HBO := Lib.hid (heap_alloc_new w6 (.cells #[.int .i64 0, .int .i64 0, .int .i64 0, .int .i64 0, .slice none 0 0] 24)); rw [ho] at HBO ⊢; have zo : W0.heap.size ≤ o := (by rw [← ho]; exact Ext.size (show Ext W0 _ from (by with_reducible (repeat (first | exact Ext.rfl_ _ | assumption | refine Ext.drew ?_ | refine Ext.drewN ?_ _ | refine Ext.alloc ?_ _ | refine Ext.trans ?_ (by assumption)))))); clear ho; have HFI := Lib.hid (show Ext W0 (w6.alloc (.cells #[.int .i64 0, .int .i64 0, .int .i64 0, .int .i64 0, .slice none 0 0] 24)) from (by with_reducible (repeat (first | exact Ext.rfl_ _ | assumption | refine Ext.drew ?_ | refine Ext.drewN ?_ _ | refine Ext.alloc ?_ _ | refine Ext.trans ?_ (by assumption)))))) | (obtain ⟨o, ho⟩ : ∃ o, w5.heap.size = o := ⟨_, rfl⟩; have HBO := Lib.hid (heap_alloc_new w5 (.cells #[.int .i64 0, .int .i64 0, .int .i64 0, .int .i64 0, .slice none 0 0] 24)); rw [ho] at HBO ⊢; have zo : W0.heap.size ≤ o := (by rw [← ho]; exact Ext.size (show Ext W0 _ from (by with_reducible (repeat (first | exact Ext.rfl_ _ | assumption | refine Ext.drew ?_ | refine Ext.drewN ?_ _ | refine Ext.alloc ?_ _ | refine Ext.trans ?_ (by assumption)))))); clear ho; have HFI := Lib.hid (show Ext W0 (w5.alloc (.cells #[.int .i64 0, .int .i64 0, .int .i64 0, .int .i64 0, .slice none 0 0] 24)) from (by with_reducible (repeat (first | exact Ext.rfl_ _ | assumption | refine Ext.drew ?_ | refine Ext.drewN ?_ _ | refine Ext.alloc ?_ _ | refine Ext.trans ?_ (by assumption)))))))
         refine hK.out _ _ (by (try dsimp only); exact HEB.out _ (by with_reducible (repeat (first | exact Ext.rfl_ _ | assumption | refine Ext.drew ?_ | refine Ext.drewN ?_ _ | refine Ext.alloc ?_ _ | refine Ext.setCell ?_ (by first | (simp; done) | (simp; omega)) _ | refine Ext.trans ?_ (by assumption))))) (fun hHeld => ?_)
         clear hK K
         (try simp only [Act.put, List.getElem_toArray, List.getElem_cons_zero, List.getElem_cons_succ, List.setIfInBounds_toArray, List.set_cons_zero, List.set_cons_succ])
         refine wpAnyH_ready (rs := [9]) (by kernel_rfl) (by simp) ?_
         refine AllReadyH.cons (o := ({ dst := some 65, op := .call { callee := .value (.func 28), args := #[.tmp 64], argTypes := #[22] }, type := 22, pos := "ref.go:104", after := #[⟨8, .data⟩], guard := none } : Go.Oper)) rfl (fun K hK => ?_) AllReadyH.nil
         go_simp
         (go_at_call 28; refine (rsorted_any A5 n5 c5 (keptT x y ++ y.add) _ (HR5.out.ext (by with_reducible (repeat (first | exact Ext.rfl_ _ | assumption | refine Ext.drew ?_ | refine Ext.drewN ?_ _ | refine Ext.alloc ?_ _ | refine Ext.trans ?_ (by assumption))))) (by omega)).mono ?_; rintro e w6 ⟨v6, rfl, base6, hb6, ho6, hw6⟩; obtain ⟨A6, n6, c6, rfl, hc6, _⟩ := ho6.formN (by rw [srtT_len]; have := HLN.out; unfold B47; omega); have HO6 := Lib.hid ho6; (try (have HBO := Lib.hid (((Ext.below hw6).block _ (Array.getElem?_eq_some_iff.1 HBO.out).1).trans HBO.out); have HFI := Lib.hid (show Ext W0 w6 from (by with_reducible (repeat (first | exact Ext.rfl_ _ | assumption | refine Ext.drew ?_ | refine Ext.drewN ?_ _ | refine Ext.alloc ?_ _ | refine Ext.trans ?_ (by assumption))))))); clear ho6)
         (try (go_wp2_with fail))
         refine hK.out _ _ (by (try dsimp only); exact HEB.out _ (by with_reducible (repeat (first | exact Ext.rfl_ _ | assumption | refine Ext.drew ?_ | refine Ext.drewN ?_ _ | refine Ext.alloc ?_ _ | refine Ext.setCell ?_ (by first | (simp; done) | (simp; omega)) _ | refine Ext.trans ?_ (by assumption))))) (fun hHeld => ?_)
         clear hK K
         (try simp only [Act.put, List.getElem_toArray, List.getElem_cons_zero, List.getElem_cons_succ, List.setIfInBounds_toArray, List.set_cons_zero, List.set_cons_succ])
         refine wpAnyH_ready (rs := [10]) (by kernel_rfl) (by simp) ?_
         refine AllReadyH.cons (o := ({ dst := some 66, op := .build 24 #[(0, .tmp 57), (1, .tmp 59), (2, .tmp 61), (3, .tmp 63), (4, .tmp 65)], type := 24, pos := "ref.go:104", after := #[⟨1, .data⟩, ⟨3, .data⟩, ⟨5, .data⟩, ⟨7, .data⟩, ⟨9, .data⟩], guard := none } : Go.Oper)) rfl (fun K hK => ?_) AllReadyH.nil
         go_simp
         refine hK.out _ _ (by (try dsimp only); exact HEB.out _ (by with_reducible (repeat (first | exact Ext.rfl_ _ | assumption | refine Ext.drew ?_ | refine Ext.drewN ?_ _ | refine Ext.alloc ?_ _ | refine Ext.setCell ?_ (by first | (simp; done) | (simp; omega)) _ | refine Ext.trans ?_ (by assumption))))) (fun hHeld => ?_)
         clear hK K
         (try simp only [Act.put, List.getElem_toArray, List.getElem_cons_zero, List.getElem_cons_succ, List.setIfInBounds_toArray, List.set_cons_zero, List.set_cons_succ])
         refine wpAnyH_ready (rs := [12]) (by kernel_rfl) (by simp) ?_
         refine AllReadyH.cons (o := ({ dst := none, op := .store 24 (.tmp 11) (.tmp 66), type := 0, pos := "ref.go:104", after := #[⟨11, .data⟩, ⟨10, .data⟩, ⟨9, .chain⟩, ⟨0, .phase⟩, ⟨1, .phase⟩, ⟨2, .phase⟩, ⟨3, .phase⟩, ⟨4, .phase⟩, ⟨5, .phase⟩, ⟨6, .phase⟩, ⟨7, .phase⟩, ⟨8, .phase⟩, ⟨9, .phase⟩, ⟨10, .phase⟩, ⟨11, .phase⟩], guard := none } : Go.Oper)) rfl (fun K hK => ?_) AllReadyH.nil
         (try (obtain ⟨o0, o1, o2, o3, o4, p0, p1, p2, p3, p4⟩ := box5 HBO.out (Ext.rfl_ _))); go_simp
         refine hK.out _ _ (by (try dsimp only); exact HEB.out _ (by with_reducible (repeat (first | exact Ext.rfl_ _ | assumption | refine Ext.drew ?_ | refine Ext.drewN ?_ _ | refine Ext.alloc ?_ _ | refine Ext.setCell ?_ (by first | (simp; done) | (simp; omega)) _ | refine Ext.trans ?_ (by assumption))))) (fun hHeld => ?_)
         clear hK K
         (try simp only [Act.put, List.getElem_toArray, List.getElem_cons_zero, List.getElem_cons_succ, List.setIfInBounds_toArray, List.set_cons_zero, List.set_cons_succ])
         refine wpAnyH_done (by kernel_rfl) ?_ _
       all_goals
        go_wp2
        go_meet
        exact ⟨o, A6, n6, c6, base6, rfl, zo, hc6, set5 HBO.out _ _ _ _ _, extSet5 HFI.out zo _ _ _ _ _, OwnT.other (HO6.out.ext (by with_reducible (repeat (first | exact Ext.rfl_ _ | assumption | refine Ext.drew ?_ | refine Ext.drewN ?_ _ | refine Ext.alloc ?_ _ | refine Ext.trans ?_ (by assumption))))) HBO.out (by decide) (by decide) noU8 (grown5 _ _ _ _ _ _ _)⟩
      case rest =>
        obtain ⟨o, A6, n6, c6, base6, rfl, zo, hc6, hbo, X6, ho6⟩ := hcut
        have HBO := Lib.hid hbo
        have HO6 := Lib.hid ho6
        clear hbo ho6
        have HV6 := Lib.hid (ownT_ver2 y HO6.out (by rw [srtT_len, List.length_append]; unfold B47; omega))
        have E := EQ.out
        have hq2 : q2 < wc.heap.size := by have := X6.size; omega
        have HC0 := Lib.hid (((Ext.below X6).block _ (Array.getElem?_eq_some_iff.1 HB0.out).1).trans HB0.out)
        have HC1 := Lib.hid (((Ext.below X6).block _ (Array.getElem?_eq_some_iff.1 HB1.out).1).trans HB1.out)
        have HC2 := Lib.hid (((Ext.below X6).block _ (Array.getElem?_eq_some_iff.1 HB2.out).1).trans HB2.out)
        have HS16 := Lib.hid (show ∀ W, wc.grownBy W (some q2) → (W.cell? ⟨w.heap.size, 0, none⟩ = some (.int .i64 x.next) ∧ W.cell? ⟨w.heap.size, 1, none⟩ = some (.int .i64 x.log) ∧ W.cell? ⟨w.heap.size, 2, none⟩ = some (.int .i64 x.index) ∧ W.cell? ⟨w.heap.size, 3, none⟩ = some (.int .i64 x.seq) ∧ W.cell? ⟨w.heap.size, 4, none⟩ = some (.slice A x.ts.length c)) ∧ (W.cell? ⟨q1, 0, none⟩ = some (.slice D y.drop.length dc) ∧ W.cell? ⟨q1, 1, none⟩ = some (.slice B y.add.length d) ∧ W.cell? ⟨q1, 2, none⟩ = some (.int .i64 y.next) ∧ W.cell? ⟨q1, 3, none⟩ = some (.int .i64 y.log) ∧ W.cell? ⟨q1, 4, none⟩ = some (.int .i64 y.index) ∧ W.cell? ⟨q1, 5, none⟩ = some (.int .i64 y.seq)) ∧ (W.cell? ⟨o, 0, none⟩ = some (.int .i64 y.next) ∧ W.cell? ⟨o, 1, none⟩ = some (.int .i64 y.log) ∧ W.cell? ⟨o, 2, none⟩ = some (.int .i64 y.index) ∧ W.cell? ⟨o, 3, none⟩ = some (.int .i64 y.seq) ∧ W.cell? ⟨o, 4, none⟩ = some (.slice A6 n6 c6)) from fun W hW => by
          have k0 := (hW.block _ (Array.getElem?_eq_some_iff.1 HC0.out).1 (by simp; omega)).trans HC0.out
          have k1 := (hW.block _ (Array.getElem?_eq_some_iff.1 HC1.out).1 (by simp; omega)).trans HC1.out
          have k2 := (hW.block _ (Array.getElem?_eq_some_iff.1 HBO.out).1 (by simp; omega)).trans HBO.out
          obtain ⟨a0, a1, a2, a3, a4, _⟩ := box5 k0 (Ext.rfl_ _)
          obtain ⟨b0, b1, b2, b3, b4, _⟩ := box5 k2 (Ext.rfl_ _)
          exact ⟨⟨a0, a1, a2, a3, a4⟩, box6 k1, ⟨b0, b1, b2, b3, b4⟩⟩)
        have XF := Lib.hid (X0.out.trans X6)
        have HQ2 : Hid (w.heap.size ≤ q2) := Lib.hid (by omega)
        clear X6 E zo
        by_cases k0 : (foundT x y x.ts.length : Int) = (y.drop.length : Int)
        rotate_left
        · have HR : Hid (rdoB x y = false) := Lib.hid (rdoB_no fun h => k0 (by have := h.1; omega))
          have d0 : ((foundT x y x.ts.length : Int) == (y.drop.length : Int)) = false := by simp [k0]
          clear k0
          go_wp2
          refine wp_region_held_drew (S := (fun W => (W.cell? ⟨w.heap.size, 0, none⟩ = some (.int .i64 x.next) ∧ W.cell? ⟨w.heap.size, 1, none⟩ = some (.int .i64 x.log) ∧ W.cell? ⟨w.heap.size, 2, none⟩ = some (.int .i64 x.index) ∧ W.cell? ⟨w.heap.size, 3, none⟩ = some (.int .i64 x.seq) ∧ W.cell? ⟨w.heap.size, 4, none⟩ = some (.slice A x.ts.length c)) ∧ (W.cell? ⟨q1, 0, none⟩ = some (.slice D y.drop.length dc) ∧ W.cell? ⟨q1, 1, none⟩ = some (.slice B y.add.length d) ∧ W.cell? ⟨q1, 2, none⟩ = some (.int .i64 y.next) ∧ W.cell? ⟨q1, 3, none⟩ = some (.int .i64 y.log) ∧ W.cell? ⟨q1, 4, none⟩ = some (.int .i64 y.index) ∧ W.cell? ⟨q1, 5, none⟩ = some (.int .i64 y.seq)) ∧ (W.cell? ⟨o, 0, none⟩ = some (.int .i64 y.next) ∧ W.cell? ⟨o, 1, none⟩ = some (.int .i64 y.log) ∧ W.cell? ⟨o, 2, none⟩ = some (.int .i64 y.index) ∧ W.cell? ⟨o, 3, none⟩ = some (.int .i64 y.seq) ∧ W.cell? ⟨o, 4, none⟩ = some (.slice A6 n6 c6)))) (by kernel_rfl) (by (try dsimp only); (refine HS16.out _ ?_; first | exact ((X38.grownBy _).trans_ (grown5 _ _ _ _ _ _ _)).drew_ | exact (X38.grownBy _).trans_ (grown5 _ _ _ _ _ _ _) | (refine Ext.grownBy ?_ _; (with_reducible (repeat (first | exact Ext.rfl_ _ | assumption | refine Ext.drew ?_ | refine Ext.alloc ?_ _ | refine Ext.trans ?_ (by assumption))))))) (fun hHeld => ?_)
          refine wpAnyH_take (i := 0) (oi := ({ dst := some 67, op := .load 24 (.tmp 11), type := 24, pos := "ref.go:105", after := #[], guard := none } : Go.Oper)) (v := ?v12) rfl (by kernel_rfl) (by kernel_rfl) (by kernel_rfl) (fun _ _ _ h => h) (Or.inl ⟨by rfl, ?hy12⟩) (by assumption) ?rest12
          case hy12 => (intro w hSw; (try dsimp only at hSw); go_simp; (try with_reducible rfl))
          (try simp only [Act.put, List.getElem_toArray, List.getElem_cons_zero, List.getElem_cons_succ, List.setIfInBounds_toArray, List.set_cons_zero, List.set_cons_succ])
          refine wpAnyH_take (i := 1) (oi := ({ dst := some 68, op := .move (.tmp 7), type := 3, pos := "ref.go:105", after := #[], guard := none } : Go.Oper)) (v := ?v13) rfl (by kernel_rfl) (by kernel_rfl) (by kernel_rfl) (fun _ _ _ h => h) (Or.inl ⟨by rfl, ?hy13⟩) (by assumption) ?rest13
          case hy13 => (intro w hSw; (try dsimp only at hSw); go_simp; (try with_reducible rfl))
          (try simp only [Act.put, List.getElem_toArray, List.getElem_cons_zero, List.getElem_cons_succ, List.setIfInBounds_toArray, List.set_cons_zero, List.set_cons_succ])
          refine wpAnyH_take (i := 2) (oi := ({ dst := some 69, op := .fieldAddr 29 (.tmp 3) 0, type := 0, pos := "ref.go:105", after := #[], guard := none } : Go.Oper)) (v := ?v14) rfl (by kernel_rfl) (by kernel_rfl) (by kernel_rfl) (fun _ _ _ h => h) (Or.inl ⟨by rfl, ?hy14⟩) (by assumption) ?rest14
          case hy14 => (intro w hSw; (try dsimp only at hSw); go_simp; (try with_reducible rfl))
          (try simp only [Act.put, List.getElem_toArray, List.getElem_cons_zero, List.getElem_cons_succ, List.setIfInBounds_toArray, List.set_cons_zero, List.set_cons_succ])
          refine wpAnyH_take (i := 3) (oi := ({ dst := some 70, op := .load 27 (.tmp 69), type := 27, pos := "ref.go:105", after := #[⟨2, .data⟩], guard := none } : Go.Oper)) (v := ?v15) rfl (by kernel_rfl) (by kernel_rfl) (by kernel_rfl) (fun _ _ _ h => h) (Or.inl ⟨by rfl, ?hy15⟩) (by assumption) ?rest15
          case hy15 => (intro w hSw; (try dsimp only at hSw); go_simp; (try with_reducible rfl))
          (try simp only [Act.put, List.getElem_toArray, List.getElem_cons_zero, List.getElem_cons_succ, List.setIfInBounds_toArray, List.set_cons_zero, List.set_cons_succ])
          refine wpAnyH_take (i := 4) (oi := ({ dst := some 71, op := .call { callee := .builtin .len, args := #[.tmp 70], argTypes := #[27] }, type := 3, pos := "ref.go:105", after := #[⟨3, .data⟩], guard := none } : Go.Oper)) (v := ?v16) rfl (by kernel_rfl) (by kernel_rfl) (by kernel_rfl) (fun _ _ _ h => h) (Or.inl ⟨by rfl, ?hy16⟩) (by assumption) ?rest16
          case hy16 => (intro w hSw; (try dsimp only at hSw); go_simp; (try with_reducible rfl))
          (try simp only [Act.put, List.getElem_toArray, List.getElem_cons_zero, List.getElem_cons_succ, List.setIfInBounds_toArray, List.set_cons_zero, List.set_cons_succ])
          refine wpAnyH_take (i := 5) (oi := ({ dst := some 72, op := .binOp .eql 3 (.tmp 68) (.tmp 71) 3, type := 4, pos := "ref.go:105", after := #[⟨1, .data⟩, ⟨4, .data⟩], guard := none } : Go.Oper)) (v := ?v17) rfl (by kernel_rfl) (by kernel_rfl) (by kernel_rfl) (fun _ _ _ h => h) (Or.inl ⟨by rfl, ?hy17⟩) (by assumption) ?rest17
          case hy17 => (intro w hSw; (try dsimp only at hSw); go_simp; (try with_reducible rfl))
          (try simp only [Act.put, List.getElem_toArray, List.getElem_cons_zero, List.getElem_cons_succ, List.setIfInBounds_toArray, List.set_cons_zero, List.set_cons_succ])
          refine wpAnyH_take (i := 6) (oi := ({ dst := some 73, op := .move (.tmp 72), type := 4, pos := "ref.go:105", after := #[⟨5, .data⟩], guard := none } : Go.Oper)) (v := ?v18) rfl (by kernel_rfl) (by kernel_rfl) (by kernel_rfl) (fun _ _ _ h => h) (Or.inl ⟨by rfl, ?hy18⟩) (by assumption) ?rest18
          case hy18 => (intro w hSw; (try dsimp only at hSw); go_simp; (try with_reducible rfl))
          (try simp only [Act.put, List.getElem_toArray, List.getElem_cons_zero, List.getElem_cons_succ, List.setIfInBounds_toArray, List.set_cons_zero, List.set_cons_succ])
          refine wpAnyH_take (i := 7) (oi := ({ dst := some 74, op := .fieldAddr 29 (.tmp 3) 2, type := 0, pos := "ref.go:105", after := #[⟨6, .guard⟩], guard := some (6, true) } : Go.Oper)) (v := undef) rfl (by kernel_rfl) (by kernel_rfl) (by kernel_rfl) (fun _ _ _ h => h) (Or.inr ⟨by rfl, rfl⟩) (by assumption) ?_
          (try simp only [Act.put, List.getElem_toArray, List.getElem_cons_zero, List.getElem_cons_succ, List.setIfInBounds_toArray, List.set_cons_zero, List.set_cons_succ])
          refine wpAnyH_take (i := 8) (oi := ({ dst := some 75, op := .load 2 (.tmp 74), type := 2, pos := "ref.go:105", after := #[⟨7, .data⟩, ⟨6, .guard⟩], guard := some (6, true) } : Go.Oper)) (v := undef) rfl (by kernel_rfl) (by kernel_rfl) (by kernel_rfl) (fun _ _ _ h => h) (Or.inr ⟨by rfl, rfl⟩) (by assumption) ?_
          (try simp only [Act.put, List.getElem_toArray, List.getElem_cons_zero, List.getElem_cons_succ, List.setIfInBounds_toArray, List.set_cons_zero, List.set_cons_succ])
          refine wpAnyH_take (i := 9) (oi := ({ dst := some 76, op := .fieldAddr 24 (.tmp 2) 0, type := 0, pos := "ref.go:105", after := #[⟨6, .guard⟩], guard := some (6, true) } : Go.Oper)) (v := undef) rfl (by kernel_rfl) (by kernel_rfl) (by kernel_rfl) (fun _ _ _ h => h) (Or.inr ⟨by rfl, rfl⟩) (by assumption) ?_
          (try simp only [Act.put, List.getElem_toArray, List.getElem_cons_zero, List.getElem_cons_succ, List.setIfInBounds_toArray, List.set_cons_zero, List.set_cons_succ])
          refine wpAnyH_take (i := 10) (oi := ({ dst := some 77, op := .load 2 (.tmp 76), type := 2, pos := "ref.go:105", after := #[⟨9, .data⟩, ⟨6, .guard⟩], guard := some (6, true) } : Go.Oper)) (v := undef) rfl (by kernel_rfl) (by kernel_rfl) (by kernel_rfl) (fun _ _ _ h => h) (Or.inr ⟨by rfl, rfl⟩) (by assumption) ?_
          (try simp only [Act.put, List.getElem_toArray, List.getElem_cons_zero, List.getElem_cons_succ, List.setIfInBounds_toArray, List.set_cons_zero, List.set_cons_succ])
          refine wpAnyH_take (i := 11) (oi := ({ dst := some 78, op := .binOp .geq 2 (.tmp 75) (.tmp 77) 2, type := 4, pos := "ref.go:105", after := #[⟨8, .data⟩, ⟨10, .data⟩, ⟨6, .guard⟩], guard := some (6, true) } : Go.Oper)) (v := undef) rfl (by kernel_rfl) (by kernel_rfl) (by kernel_rfl) (fun _ _ _ h => h) (Or.inr ⟨by rfl, rfl⟩) (by assumption) ?_
          (try simp only [Act.put, List.getElem_toArray, List.getElem_cons_zero, List.getElem_cons_succ, List.setIfInBounds_toArray, List.set_cons_zero, List.set_cons_succ])
          refine wpAnyH_take (i := 12) (oi := ({ dst := some 79, op := .pick (.tmp 73) (.tmp 78) (.const (.bool false)), type := 4, pos := "ref.go:105", after := #[⟨6, .data⟩, ⟨11, .data⟩], guard := none } : Go.Oper)) (v := ?v19) rfl (by kernel_rfl) (by kernel_rfl) (by kernel_rfl) (fun _ _ _ h => h) (Or.inl ⟨by rfl, ?hy19⟩) (by assumption) ?rest19
          case hy19 => (intro w hSw; (try dsimp only at hSw); go_simp; (try with_reducible rfl))
          (try simp only [Act.put, List.getElem_toArray, List.getElem_cons_zero, List.getElem_cons_succ, List.setIfInBounds_toArray, List.set_cons_zero, List.set_cons_succ])
          refine wpAnyH_take (i := 13) (oi := ({ dst := some 80, op := .move (.tmp 79), type := 4, pos := "ref.go:105", after := #[⟨12, .data⟩, ⟨6, .chain⟩], guard := none } : Go.Oper)) (v := ?v20) rfl (by kernel_rfl) (by kernel_rfl) (by kernel_rfl) (fun _ _ _ h => h) (Or.inl ⟨by rfl, ?hy20⟩) (by assumption) ?rest20
          case hy20 => (intro w hSw; (try dsimp only at hSw); go_simp; (try with_reducible rfl))
          (try simp only [Act.put, List.getElem_toArray, List.getElem_cons_zero, List.getElem_cons_succ, List.setIfInBounds_toArray, List.set_cons_zero, List.set_cons_succ])
          refine wpAnyH_take (i := 14) (oi := ({ dst := some 81, op := .fieldAddr 29 (.tmp 3) 3, type := 0, pos := "ref.go:105", after := #[⟨13, .guard⟩], guard := some (13, true) } : Go.Oper)) (v := undef) rfl (by kernel_rfl) (by kernel_rfl) (by kernel_rfl) (fun _ _ _ h => h) (Or.inr ⟨by rfl, rfl⟩) (by assumption) ?_
          (try simp only [Act.put, List.getElem_toArray, List.getElem_cons_zero, List.getElem_cons_succ, List.setIfInBounds_toArray, List.set_cons_zero, List.set_cons_succ])
          refine wpAnyH_take (i := 15) (oi := ({ dst := some 82, op := .load 2 (.tmp 81), type := 2, pos := "ref.go:105", after := #[⟨14, .data⟩, ⟨13, .guard⟩], guard := some (13, true) } : Go.Oper)) (v := undef) rfl (by kernel_rfl) (by kernel_rfl) (by kernel_rfl) (fun _ _ _ h => h) (Or.inr ⟨by rfl, rfl⟩) (by assumption) ?_
          (try simp only [Act.put, List.getElem_toArray, List.getElem_cons_zero, List.getElem_cons_succ, List.setIfInBounds_toArray, List.set_cons_zero, List.set_cons_succ])
          refine wpAnyH_take (i := 16) (oi := ({ dst := some 83, op := .fieldAddr 24 (.tmp 2) 1, type := 0, pos := "ref.go:105", after := #[⟨13, .guard⟩], guard := some (13, true) } : Go.Oper)) (v := undef) rfl (by kernel_rfl) (by kernel_rfl) (by kernel_rfl) (fun _ _ _ h => h) (Or.inr ⟨by rfl, rfl⟩) (by assumption) ?_
          (try simp only [Act.put, List.getElem_toArray, List.getElem_cons_zero, List.getElem_cons_succ, List.setIfInBounds_toArray, List.set_cons_zero, List.set_cons_succ])
          refine wpAnyH_take (i := 17) (oi := ({ dst := some 84, op := .load 2 (.tmp 83), type := 2, pos := "ref.go:105", after := #[⟨16, .data⟩, ⟨13, .guard⟩], guard := some (13, true) } : Go.Oper)) (v := undef) rfl (by kernel_rfl) (by kernel_rfl) (by kernel_rfl) (fun _ _ _ h => h) (Or.inr ⟨by rfl, rfl⟩) (by assumption) ?_
          (try simp only [Act.put, List.getElem_toArray, List.getElem_cons_zero, List.getElem_cons_succ, List.setIfInBounds_toArray, List.set_cons_zero, List.set_cons_succ])
          refine wpAnyH_take (i := 18) (oi := ({ dst := some 85, op := .binOp .geq 2 (.tmp 82) (.tmp 84) 2, type := 4, pos := "ref.go:105", after := #[⟨15, .data⟩, ⟨17, .data⟩, ⟨13, .guard⟩], guard := some (13, true) } : Go.Oper)) (v := undef) rfl (by kernel_rfl) (by kernel_rfl) (by kernel_rfl) (fun _ _ _ h => h) (Or.inr ⟨by rfl, rfl⟩) (by assumption) ?_
          (try simp only [Act.put, List.getElem_toArray, List.getElem_cons_zero, List.getElem_cons_succ, List.setIfInBounds_toArray, List.set_cons_zero, List.set_cons_succ])
          refine wpAnyH_take (i := 19) (oi := ({ dst := some 86, op := .pick (.tmp 80) (.tmp 85) (.const (.bool false)), type := 4, pos := "ref.go:105", after := #[⟨13, .data⟩, ⟨18, .data⟩], guard := none } : Go.Oper)) (v := ?v21) rfl (by kernel_rfl) (by kernel_rfl) (by kernel_rfl) (fun _ _ _ h => h) (Or.inl ⟨by rfl, ?hy21⟩) (by assumption) ?rest21
          case hy21 => (intro w hSw; (try dsimp only at hSw); go_simp; (try with_reducible rfl))
          (try simp only [Act.put, List.getElem_toArray, List.getElem_cons_zero, List.getElem_cons_succ, List.setIfInBounds_toArray, List.set_cons_zero, List.set_cons_succ])
          refine wpAnyH_take (i := 20) (oi := ({ dst := some 87, op := .move (.tmp 86), type := 4, pos := "ref.go:105", after := #[⟨19, .data⟩, ⟨13, .chain⟩], guard := none } : Go.Oper)) (v := ?v22) rfl (by kernel_rfl) (by kernel_rfl) (by kernel_rfl) (fun _ _ _ h => h) (Or.inl ⟨by rfl, ?hy22⟩) (by assumption) ?rest22
          case hy22 => (intro w hSw; (try dsimp only at hSw); go_simp; (try with_reducible rfl))
          (try simp only [Act.put, List.getElem_toArray, List.getElem_cons_zero, List.getElem_cons_succ, List.setIfInBounds_toArray, List.set_cons_zero, List.set_cons_succ])
          refine wpAnyH_take (i := 21) (oi := ({ dst := some 88, op := .fieldAddr 29 (.tmp 3) 4, type := 0, pos := "ref.go:105", after := #[⟨20, .guard⟩], guard := some (20, true) } : Go.Oper)) (v := undef) rfl (by kernel_rfl) (by kernel_rfl) (by kernel_rfl) (fun _ _ _ h => h) (Or.inr ⟨by rfl, rfl⟩) (by assumption) ?_
          (try simp only [Act.put, List.getElem_toArray, List.getElem_cons_zero, List.getElem_cons_succ, List.setIfInBounds_toArray, List.set_cons_zero, List.set_cons_succ])
          refine wpAnyH_take (i := 22) (oi := ({ dst := some 89, op := .load 2 (.tmp 88), type := 2, pos := "ref.go:105", after := #[⟨21, .data⟩, ⟨20, .guard⟩], guard := some (20, true) } : Go.Oper)) (v := undef) rfl (by kernel_rfl) (by kernel_rfl) (by kernel_rfl) (fun _ _ _ h => h) (Or.inr ⟨by rfl, rfl⟩) (by assumption) ?_
          (try simp only [Act.put, List.getElem_toArray, List.getElem_cons_zero, List.getElem_cons_succ, List.setIfInBounds_toArray, List.set_cons_zero, List.set_cons_succ])
          refine wpAnyH_take (i := 23) (oi := ({ dst := some 90, op := .fieldAddr 24 (.tmp 2) 2, type := 0, pos := "ref.go:105", after := #[⟨20, .guard⟩], guard := some (20, true) } : Go.Oper)) (v := undef) rfl (by kernel_rfl) (by kernel_rfl) (by kernel_rfl) (fun _ _ _ h => h) (Or.inr ⟨by rfl, rfl⟩) (by assumption) ?_
          (try simp only [Act.put, List.getElem_toArray, List.getElem_cons_zero, List.getElem_cons_succ, List.setIfInBounds_toArray, List.set_cons_zero, List.set_cons_succ])
          refine wpAnyH_take (i := 24) (oi := ({ dst := some 91, op := .load 2 (.tmp 90), type := 2, pos := "ref.go:105", after := #[⟨23, .data⟩, ⟨20, .guard⟩], guard := some (20, true) } : Go.Oper)) (v := undef) rfl (by kernel_rfl) (by kernel_rfl) (by kernel_rfl) (fun _ _ _ h => h) (Or.inr ⟨by rfl, rfl⟩) (by assumption) ?_
          (try simp only [Act.put, List.getElem_toArray, List.getElem_cons_zero, List.getElem_cons_succ, List.setIfInBounds_toArray, List.set_cons_zero, List.set_cons_succ])
          refine wpAnyH_take (i := 25) (oi := ({ dst := some 92, op := .binOp .geq 2 (.tmp 89) (.tmp 91) 2, type := 4, pos := "ref.go:105", after := #[⟨22, .data⟩, ⟨24, .data⟩, ⟨20, .guard⟩], guard := some (20, true) } : Go.Oper)) (v := undef) rfl (by kernel_rfl) (by kernel_rfl) (by kernel_rfl) (fun _ _ _ h => h) (Or.inr ⟨by rfl, rfl⟩) (by assumption) ?_
          (try simp only [Act.put, List.getElem_toArray, List.getElem_cons_zero, List.getElem_cons_succ, List.setIfInBounds_toArray, List.set_cons_zero, List.set_cons_succ])
          refine wpAnyH_take (i := 26) (oi := ({ dst := some 93, op := .pick (.tmp 87) (.tmp 92) (.const (.bool false)), type := 4, pos := "ref.go:105", after := #[⟨20, .data⟩, ⟨25, .data⟩], guard := none } : Go.Oper)) (v := ?v23) rfl (by kernel_rfl) (by kernel_rfl) (by kernel_rfl) (fun _ _ _ h => h) (Or.inl ⟨by rfl, ?hy23⟩) (by assumption) ?rest23
          case hy23 => (intro w hSw; (try dsimp only at hSw); go_simp; (try with_reducible rfl))
          (try simp only [Act.put, List.getElem_toArray, List.getElem_cons_zero, List.getElem_cons_succ, List.setIfInBounds_toArray, List.set_cons_zero, List.set_cons_succ])
          refine wpAnyH_take (i := 27) (oi := ({ dst := some 94, op := .move (.tmp 93), type := 4, pos := "ref.go:105", after := #[⟨26, .data⟩, ⟨20, .chain⟩], guard := none } : Go.Oper)) (v := ?v24) rfl (by kernel_rfl) (by kernel_rfl) (by kernel_rfl) (fun _ _ _ h => h) (Or.inl ⟨by rfl, ?hy24⟩) (by assumption) ?rest24
          case hy24 => (intro w hSw; (try dsimp only at hSw); go_simp; (try with_reducible rfl))
          (try simp only [Act.put, List.getElem_toArray, List.getElem_cons_zero, List.getElem_cons_succ, List.setIfInBounds_toArray, List.set_cons_zero, List.set_cons_succ])
          refine wpAnyH_take (i := 28) (oi := ({ dst := some 95, op := .fieldAddr 29 (.tmp 3) 5, type := 0, pos := "ref.go:105", after := #[⟨27, .guard⟩], guard := some (27, true) } : Go.Oper)) (v := undef) rfl (by kernel_rfl) (by kernel_rfl) (by kernel_rfl) (fun _ _ _ h => h) (Or.inr ⟨by rfl, rfl⟩) (by assumption) ?_
          (try simp only [Act.put, List.getElem_toArray, List.getElem_cons_zero, List.getElem_cons_succ, List.setIfInBounds_toArray, List.set_cons_zero, List.set_cons_succ])
          refine wpAnyH_take (i := 29) (oi := ({ dst := some 96, op := .load 2 (.tmp 95), type := 2, pos := "ref.go:105", after := #[⟨28, .data⟩, ⟨27, .guard⟩], guard := some (27, true) } : Go.Oper)) (v := undef) rfl (by kernel_rfl) (by kernel_rfl) (by kernel_rfl) (fun _ _ _ h => h) (Or.inr ⟨by rfl, rfl⟩) (by assumption) ?_
          (try simp only [Act.put, List.getElem_toArray, List.getElem_cons_zero, List.getElem_cons_succ, List.setIfInBounds_toArray, List.set_cons_zero, List.set_cons_succ])
          refine wpAnyH_take (i := 30) (oi := ({ dst := some 97, op := .fieldAddr 24 (.tmp 2) 3, type := 0, pos := "ref.go:105", after := #[⟨27, .guard⟩], guard := some (27, true) } : Go.Oper)) (v := undef) rfl (by kernel_rfl) (by kernel_rfl) (by kernel_rfl) (fun _ _ _ h => h) (Or.inr ⟨by rfl, rfl⟩) (by assumption) ?_
          (try simp only [Act.put, List.getElem_toArray, List.getElem_cons_zero, List.getElem_cons_succ, List.setIfInBounds_toArray, List.set_cons_zero, List.set_cons_succ])
          refine wpAnyH_take (i := 31) (oi := ({ dst := some 98, op := .load 2 (.tmp 97), type := 2, pos := "ref.go:105", after := #[⟨30, .data⟩, ⟨27, .guard⟩], guard := some (27, true) } : Go.Oper)) (v := undef) rfl (by kernel_rfl) (by kernel_rfl) (by kernel_rfl) (fun _ _ _ h => h) (Or.inr ⟨by rfl, rfl⟩) (by assumption) ?_
          (try simp only [Act.put, List.getElem_toArray, List.getElem_cons_zero, List.getElem_cons_succ, List.setIfInBounds_toArray, List.set_cons_zero, List.set_cons_succ])
          refine wpAnyH_take (i := 32) (oi := ({ dst := some 99, op := .binOp .geq 2 (.tmp 96) (.tmp 98) 2, type := 4, pos := "ref.go:105", after := #[⟨29, .data⟩, ⟨31, .data⟩, ⟨27, .guard⟩], guard := some (27, true) } : Go.Oper)) (v := undef) rfl (by kernel_rfl) (by kernel_rfl) (by kernel_rfl) (fun _ _ _ h => h) (Or.inr ⟨by rfl, rfl⟩) (by assumption) ?_
          (try simp only [Act.put, List.getElem_toArray, List.getElem_cons_zero, List.getElem_cons_succ, List.setIfInBounds_toArray, List.set_cons_zero, List.set_cons_succ])
          refine wpAnyH_take (i := 33) (oi := ({ dst := some 100, op := .pick (.tmp 94) (.tmp 99) (.const (.bool false)), type := 4, pos := "ref.go:105", after := #[⟨27, .data⟩, ⟨32, .data⟩], guard := none } : Go.Oper)) (v := ?v25) rfl (by kernel_rfl) (by kernel_rfl) (by kernel_rfl) (fun _ _ _ h => h) (Or.inl ⟨by rfl, ?hy25⟩) (by assumption) ?rest25
          case hy25 => (intro w hSw; (try dsimp only at hSw); go_simp; (try with_reducible rfl))
          (try simp only [Act.put, List.getElem_toArray, List.getElem_cons_zero, List.getElem_cons_succ, List.setIfInBounds_toArray, List.set_cons_zero, List.set_cons_succ])
          refine wpAnyH_take (i := 34) (oi := ({ dst := some 101, op := .move (.tmp 100), type := 4, pos := "ref.go:105", after := #[⟨33, .data⟩, ⟨27, .chain⟩], guard := none } : Go.Oper)) (v := ?v26) rfl (by kernel_rfl) (by kernel_rfl) (by kernel_rfl) (fun _ _ _ h => h) (Or.inl ⟨by rfl, ?hy26⟩) (by assumption) ?rest26
          case hy26 => (intro w hSw; (try dsimp only at hSw); go_simp; (try with_reducible rfl))
          (try simp only [Act.put, List.getElem_toArray, List.getElem_cons_zero, List.getElem_cons_succ, List.setIfInBounds_toArray, List.set_cons_zero, List.set_cons_succ])
          refine wpAnyH_take (i := 35) (oi := ({ dst := some 102, op := .load 24 (.tmp 11), type := 24, pos := "ref.go:105", after := #[⟨34, .guard⟩], guard := some (34, true) } : Go.Oper)) (v := undef) rfl (by kernel_rfl) (by kernel_rfl) (by kernel_rfl) (fun _ _ _ h => h) (Or.inr ⟨by rfl, rfl⟩) (by assumption) ?_
          (try simp only [Act.put, List.getElem_toArray, List.getElem_cons_zero, List.getElem_cons_succ, List.setIfInBounds_toArray, List.set_cons_zero, List.set_cons_succ])
          refine wpAnyH_take (i := 36) (oi := ({ dst := some 103, op := .call { callee := .value (.func 8), args := #[.tmp 102], argTypes := #[24] }, type := 4, pos := "ref.go:105", after := #[⟨35, .data⟩, ⟨34, .chain⟩, ⟨34, .guard⟩], guard := some (34, true) } : Go.Oper)) (v := undef) rfl (by kernel_rfl) (by kernel_rfl) (by kernel_rfl) (fun _ _ _ h => h) (Or.inr ⟨by rfl, rfl⟩) (by assumption) ?_
          (try simp only [Act.put, List.getElem_toArray, List.getElem_cons_zero, List.getElem_cons_succ, List.setIfInBounds_toArray, List.set_cons_zero, List.set_cons_succ])
          refine wpAnyH_take (i := 37) (oi := ({ dst := some 104, op := .pick (.tmp 101) (.tmp 103) (.const (.bool false)), type := 4, pos := "ref.go:105", after := #[⟨34, .data⟩, ⟨36, .data⟩, ⟨38, .gcOnly .lateStores⟩], guard := none } : Go.Oper)) (v := ?v27) rfl (by kernel_rfl) (by kernel_rfl) (by kernel_rfl) (fun _ _ _ h => h) (Or.inl ⟨by rfl, ?hy27⟩) (by assumption) ?rest27
          case hy27 => (intro w hSw; (try dsimp only at hSw); go_simp; (try with_reducible rfl))
          (try simp only [Act.put, List.getElem_toArray, List.getElem_cons_zero, List.getElem_cons_succ, List.setIfInBounds_toArray, List.set_cons_zero, List.set_cons_succ])
          refine wpAnyH_ready (rs := [38]) (by kernel_rfl) (by simp) ?_
          refine AllReadyH.cons (o := ({ dst := none, op := .store 24 (.tmp 4) (.tmp 67), type := 0, pos := "ref.go:105", after := #[⟨0, .data⟩, ⟨36, .chain⟩, ⟨0, .phase⟩, ⟨1, .textOnly .lateStores⟩, ⟨2, .textOnly .lateStores⟩, ⟨3, .textOnly .lateStores⟩, ⟨4, .textOnly .lateStoresUnsure⟩, ⟨5, .textOnly .lateStores⟩, ⟨6, .textOnly .lateStores⟩, ⟨7, .textOnly .lateStores⟩, ⟨8, .textOnly .lateStores⟩, ⟨9, .textOnly .lateStores⟩, ⟨10, .textOnly .lateStores⟩, ⟨11, .textOnly .lateStores⟩, ⟨12, .textOnly .lateStores⟩, ⟨13, .textOnly .lateStores⟩, ⟨14, .textOnly .lateStores⟩, ⟨15, .textOnly .lateStores⟩, ⟨16, .textOnly .lateStores⟩, ⟨17, .textOnly .lateStores⟩, ⟨18, .textOnly .lateStores⟩, ⟨19, .textOnly .lateStores⟩, ⟨20, .textOnly .lateStores⟩, ⟨21, .textOnly .lateStores⟩, ⟨22, .textOnly .lateStores⟩, ⟨23, .textOnly .lateStores⟩, ⟨24, .textOnly .lateStores⟩, ⟨25, .textOnly .lateStores⟩, ⟨26, .textOnly .lateStores⟩, ⟨27, .textOnly .lateStores⟩, ⟨28, .textOnly .lateStores⟩, ⟨29, .textOnly .lateStores⟩, ⟨30, .textOnly .lateStores⟩, ⟨31, .textOnly .lateStores⟩, ⟨32, .textOnly .lateStores⟩, ⟨33, .textOnly .lateStores⟩, ⟨34, .textOnly .lateStores⟩, ⟨35, .textOnly .lateStores⟩, ⟨36, .textOnly .lateStoresUnsure⟩, ⟨37, .textOnly .lateStores⟩], guard := none } : Go.Oper)) rfl (fun K hK => ?_) AllReadyH.nil
          (first | have X38 : Ext wc w8 := (by with_reducible (repeat (first | exact Ext.rfl_ _ | assumption | refine Ext.drew ?_ | refine Ext.drewN ?_ _ | refine Ext.alloc ?_ _ | refine Ext.trans ?_ (by assumption)))) | have X38 : Ext wc wc := Ext.rfl_ wc); have HC28 := Lib.hid (((Ext.below X38).block _ (Array.getElem?_eq_some_iff.1 HC2.out).1).trans HC2.out); have HO8 := Lib.hid (HO6.out.ext X38); have X8 := Lib.hid (XF.out.trans X38); obtain ⟨r0, r1, r2, r3, r4, s0, s1, s2, s3, s4⟩ := box5 HC28.out (Ext.rfl_ _); go_simp
          refine hK.out _ _ (by (try dsimp only); (refine HS16.out _ ?_; first | exact ((X38.grownBy _).trans_ (grown5 _ _ _ _ _ _ _)).drew_ | exact (X38.grownBy _).trans_ (grown5 _ _ _ _ _ _ _) | (refine Ext.grownBy ?_ _; (with_reducible (repeat (first | exact Ext.rfl_ _ | assumption | refine Ext.drew ?_ | refine Ext.alloc ?_ _ | refine Ext.trans ?_ (by assumption))))))) (fun hHeld => ?_)
          clear hK K
          (try simp only [Act.put, List.getElem_toArray, List.getElem_cons_zero, List.getElem_cons_succ, List.setIfInBounds_toArray, List.set_cons_zero, List.set_cons_succ])
          refine wpAnyH_take (i := 39) (oi := ({ dst := some 5, op := .assign (.tmp 104), type := 4, pos := "ref.go:105", after := #[⟨37, .data⟩, ⟨38, .chain⟩, ⟨0, .phase⟩, ⟨1, .phase⟩, ⟨2, .phase⟩, ⟨3, .phase⟩, ⟨4, .phase⟩, ⟨5, .phase⟩, ⟨6, .phase⟩, ⟨7, .phase⟩, ⟨8, .phase⟩, ⟨9, .phase⟩, ⟨10, .phase⟩, ⟨11, .phase⟩, ⟨12, .phase⟩, ⟨13, .phase⟩, ⟨14, .phase⟩, ⟨15, .phase⟩, ⟨16, .phase⟩, ⟨17, .phase⟩, ⟨18, .phase⟩, ⟨19, .phase⟩, ⟨20, .phase⟩, ⟨21, .phase⟩, ⟨22, .phase⟩, ⟨23, .phase⟩, ⟨24, .phase⟩, ⟨25, .phase⟩, ⟨26, .phase⟩, ⟨27, .phase⟩, ⟨28, .phase⟩, ⟨29, .phase⟩, ⟨30, .phase⟩, ⟨31, .phase⟩, ⟨32, .phase⟩, ⟨33, .phase⟩, ⟨34, .phase⟩, ⟨35, .phase⟩, ⟨36, .phase⟩, ⟨37, .phase⟩, ⟨38, .phase⟩], guard := none } : Go.Oper)) (v := ?v28) rfl (by kernel_rfl) (by kernel_rfl) (by kernel_rfl) (fun _ _ _ h => h) (Or.inl ⟨by rfl, ?hy28⟩) (by assumption) ?rest28
          case hy28 => (intro w hSw; (try dsimp only at hSw); go_simp; (try with_reducible rfl))
          (try simp only [Act.put, List.getElem_toArray, List.getElem_cons_zero, List.getElem_cons_succ, List.setIfInBounds_toArray, List.set_cons_zero, List.set_cons_succ])
          refine wpAnyH_done (by kernel_rfl) ?_ _
          all_goals
            obtain ⟨z0, z1, z2, z3, z4, _⟩ := box5 (set5 HC28.out (.int .i64 y.next) (.int .i64 y.log) (.int .i64 y.index) (.int .i64 y.seq) (.slice A6 n6 c6)) (Ext.rfl_ _)
            have HO9 := (HO8.out.other HC28.out (by decide) (by decide) noU8 (grown5 _ _ (.int .i64 y.next) (.int .i64 y.log) (.int .i64 y.index) (.int .i64 y.seq) (.slice A6 n6 c6)))
            go_wp2
            refine bodyPost_ret (v := .tuple #[.agg #[.int .i64 y.next, .int .i64 y.log, .int .i64 y.index, .int .i64 y.seq, .slice A6 n6 c6], .bool false]) (by simp [results, Try.f11, go_sem, z0, z1, z2, z3, z4]) rfl ?_
            exact ⟨_, by rw [HR.out], (ownT_ver2 y (HO9.ext (Ext.drew (Ext.rfl_ _))) (by rw [srtT_len, List.length_append]; unfold B47; omega)).out, (extSet5 X8.out HQ2.out _ _ _ _ _).drew⟩
        have d0 : ((foundT x y x.ts.length : Int) == (y.drop.length : Int)) = true := by simp [k0]
        by_cases k1 : x.next ≤ y.next
        rotate_left
        · have HR : Hid (rdoB x y = false) := Lib.hid (rdoB_no fun h => k1 (by have := h.2.1; omega))
          have d1 : decide (x.next ≤ y.next) = false := by simp [k1]
          clear k1
          go_wp2
          refine wp_region_held_drew (S := (fun W => (W.cell? ⟨w.heap.size, 0, none⟩ = some (.int .i64 x.next) ∧ W.cell? ⟨w.heap.size, 1, none⟩ = some (.int .i64 x.log) ∧ W.cell? ⟨w.heap.size, 2, none⟩ = some (.int .i64 x.index) ∧ W.cell? ⟨w.heap.size, 3, none⟩ = some (.int .i64 x.seq) ∧ W.cell? ⟨w.heap.size, 4, none⟩ = some (.slice A x.ts.length c)) ∧ (W.cell? ⟨q1, 0, none⟩ = some (.slice D y.drop.length dc) ∧ W.cell? ⟨q1, 1, none⟩ = some (.slice B y.add.length d) ∧ W.cell? ⟨q1, 2, none⟩ = some (.int .i64 y.next) ∧ W.cell? ⟨q1, 3, none⟩ = some (.int .i64 y.log) ∧ W.cell? ⟨q1, 4, none⟩ = some (.int .i64 y.index) ∧ W.cell? ⟨q1, 5, none⟩ = some (.int .i64 y.seq)) ∧ (W.cell? ⟨o, 0, none⟩ = some (.int .i64 y.next) ∧ W.cell? ⟨o, 1, none⟩ = some (.int .i64 y.log) ∧ W.cell? ⟨o, 2, none⟩ = some (.int .i64 y.index) ∧ W.cell? ⟨o, 3, none⟩ = some (.int .i64 y.seq) ∧ W.cell? ⟨o, 4, none⟩ = some (.slice A6 n6 c6)))) (by kernel_rfl) (by (try dsimp only); (refine HS16.out _ ?_; first | exact ((X38.grownBy _).trans_ (grown5 _ _ _ _ _ _ _)).drew_ | exact (X38.grownBy _).trans_ (grown5 _ _ _ _ _ _ _) | (refine Ext.grownBy ?_ _; (with_reducible (repeat (first | exact Ext.rfl_ _ | assumption | refine Ext.drew ?_ | refine Ext.alloc ?_ _ | refine Ext.trans ?_ (by assumption))))))) (fun hHeld => ?_)
          refine wpAnyH_take (i := 0) (oi := ({ dst := some 67, op := .load 24 (.tmp 11), type := 24, pos := "ref.go:105", after := #[], guard := none } : Go.Oper)) (v := ?v29) rfl (by kernel_rfl) (by kernel_rfl) (by kernel_rfl) (fun _ _ _ h => h) (Or.inl ⟨by rfl, ?hy29⟩) (by assumption) ?rest29
          case hy29 => (intro w hSw; (try dsimp only at hSw); go_simp; (try with_reducible rfl))
          (try simp only [Act.put, List.getElem_toArray, List.getElem_cons_zero, List.getElem_cons_succ, List.setIfInBounds_toArray, List.set_cons_zero, List.set_cons_succ])
          refine wpAnyH_take (i := 1) (oi := ({ dst := some 68, op := .move (.tmp 7), type := 3, pos := "ref.go:105", after := #[], guard := none } : Go.Oper)) (v := ?v30) rfl (by kernel_rfl) (by kernel_rfl) (by kernel_rfl) (fun _ _ _ h => h) (Or.inl ⟨by rfl, ?hy30⟩) (by assumption) ?rest30
          case hy30 => (intro w hSw; (try dsimp only at hSw); go_simp; (try with_reducible rfl))
          (try simp only [Act.put, List.getElem_toArray, List.getElem_cons_zero, List.getElem_cons_succ, List.setIfInBounds_toArray, List.set_cons_zero, List.set_cons_succ])
          refine wpAnyH_take (i := 2) (oi := ({ dst := some 69, op := .fieldAddr 29 (.tmp 3) 0, type := 0, pos := "ref.go:105", after := #[], guard := none } : Go.Oper)) (v := ?v31) rfl (by kernel_rfl) (by kernel_rfl) (by kernel_rfl) (fun _ _ _ h => h) (Or.inl ⟨by rfl, ?hy31⟩) (by assumption) ?rest31
          case hy31 => (intro w hSw; (try dsimp only at hSw); go_simp; (try with_reducible rfl))
          (try simp only [Act.put, List.getElem_toArray, List.getElem_cons_zero, List.getElem_cons_succ, List.setIfInBounds_toArray, List.set_cons_zero, List.set_cons_succ])
          refine wpAnyH_take (i := 3) (oi := ({ dst := some 70, op := .load 27 (.tmp 69), type := 27, pos := "ref.go:105", after := #[⟨2, .data⟩], guard := none } : Go.Oper)) (v := ?v32) rfl (by kernel_rfl) (by kernel_rfl) (by kernel_rfl) (fun _ _ _ h => h) (Or.inl ⟨by rfl, ?hy32⟩) (by assumption) ?rest32
          case hy32 => (intro w hSw; (try dsimp only at hSw); go_simp; (try with_reducible rfl))
          (try simp only [Act.put, List.getElem_toArray, List.getElem_cons_zero, List.getElem_cons_succ, List.setIfInBounds_toArray, List.set_cons_zero, List.set_cons_succ])
          refine wpAnyH_take (i := 4) (oi := ({ dst := some 71, op := .call { callee := .builtin .len, args := #[.tmp 70], argTypes := #[27] }, type := 3, pos := "ref.go:105", after := #[⟨3, .data⟩], guard := none } : Go.Oper)) (v := ?v33) rfl (by kernel_rfl) (by kernel_rfl) (by kernel_rfl) (fun _ _ _ h => h) (Or.inl ⟨by rfl, ?hy33⟩) (by assumption) ?rest33
          case hy33 => (intro w hSw; (try dsimp only at hSw); go_simp; (try with_reducible rfl))
          (try simp only [Act.put, List.getElem_toArray, List.getElem_cons_zero, List.getElem_cons_succ, List.setIfInBounds_toArray, List.set_cons_zero, List.set_cons_succ])
          refine wpAnyH_take (i := 5) (oi := ({ dst := some 72, op := .binOp .eql 3 (.tmp 68) (.tmp 71) 3, type := 4, pos := "ref.go:105", after := #[⟨1, .data⟩, ⟨4, .data⟩], guard := none } : Go.Oper)) (v := ?v34) rfl (by kernel_rfl) (by kernel_rfl) (by kernel_rfl) (fun _ _ _ h => h) (Or.inl ⟨by rfl, ?hy34⟩) (by assumption) ?rest34
          case hy34 => (intro w hSw; (try dsimp only at hSw); go_simp; (try with_reducible rfl))
          (try simp only [Act.put, List.getElem_toArray, List.getElem_cons_zero, List.getElem_cons_succ, List.setIfInBounds_toArray, List.set_cons_zero, List.set_cons_succ])
          refine wpAnyH_take (i := 6) (oi := ({ dst := some 73, op := .move (.tmp 72), type := 4, pos := "ref.go:105", after := #[⟨5, .data⟩], guard := none } : Go.Oper)) (v := ?v35) rfl (by kernel_rfl) (by kernel_rfl) (by kernel_rfl) (fun _ _ _ h => h) (Or.inl ⟨by rfl, ?hy35⟩) (by assumption) ?rest35
          case hy35 => (intro w hSw; (try dsimp only at hSw); go_simp; (try with_reducible rfl))
          (try simp only [Act.put, List.getElem_toArray, List.getElem_cons_zero, List.getElem_cons_succ, List.setIfInBounds_toArray, List.set_cons_zero, List.set_cons_succ])
          refine wpAnyH_take (i := 7) (oi := ({ dst := some 74, op := .fieldAddr 29 (.tmp 3) 2, type := 0, pos := "ref.go:105", after := #[⟨6, .guard⟩], guard := some (6, true) } : Go.Oper)) (v := ?v36) rfl (by kernel_rfl) (by kernel_rfl) (by kernel_rfl) (fun _ _ _ h => h) (Or.inl ⟨by rfl, ?hy36⟩) (by assumption) ?rest36
          case hy36 => (intro w hSw; (try dsimp only at hSw); go_simp; (try with_reducible rfl))
          (try simp only [Act.put, List.getElem_toArray, List.getElem_cons_zero, List.getElem_cons_succ, List.setIfInBounds_toArray, List.set_cons_zero, List.set_cons_succ])
          refine wpAnyH_take (i := 8) (oi := ({ dst := some 75, op := .load 2 (.tmp 74), type := 2, pos := "ref.go:105", after := #[⟨7, .data⟩, ⟨6, .guard⟩], guard := some (6, true) } : Go.Oper)) (v := ?v37) rfl (by kernel_rfl) (by kernel_rfl) (by kernel_rfl) (fun _ _ _ h => h) (Or.inl ⟨by rfl, ?hy37⟩) (by assumption) ?rest37
          case hy37 => (intro w hSw; (try dsimp only at hSw); go_simp; (try with_reducible rfl))
          (try simp only [Act.put, List.getElem_toArray, List.getElem_cons_zero, List.getElem_cons_succ, List.setIfInBounds_toArray, List.set_cons_zero, List.set_cons_succ])
          refine wpAnyH_take (i := 9) (oi := ({ dst := some 76, op := .fieldAddr 24 (.tmp 2) 0, type := 0, pos := "ref.go:105", after := #[⟨6, .guard⟩], guard := some (6, true) } : Go.Oper)) (v := ?v38) rfl (by kernel_rfl) (by kernel_rfl) (by kernel_rfl) (fun _ _ _ h => h) (Or.inl ⟨by rfl, ?hy38⟩) (by assumption) ?rest38
          case hy38 => (intro w hSw; (try dsimp only at hSw); go_simp; (try with_reducible rfl))
          (try simp only [Act.put, List.getElem_toArray, List.getElem_cons_zero, List.getElem_cons_succ, List.setIfInBounds_toArray, List.set_cons_zero, List.set_cons_succ])
          refine wpAnyH_take (i := 10) (oi := ({ dst := some 77, op := .load 2 (.tmp 76), type := 2, pos := "ref.go:105", after := #[⟨9, .data⟩, ⟨6, .guard⟩], guard := some (6, true) } : Go.Oper)) (v := ?v39) rfl (by kernel_rfl) (by kernel_rfl) (by kernel_rfl) (fun _ _ _ h => h) (Or.inl ⟨by rfl, ?hy39⟩) (by assumption) ?rest39
          case hy39 => (intro w hSw; (try dsimp only at hSw); go_simp; (try with_reducible rfl))
          (try simp only [Act.put, List.getElem_toArray, List.getElem_cons_zero, List.getElem_cons_succ, List.setIfInBounds_toArray, List.set_cons_zero, List.set_cons_succ])
          refine wpAnyH_take (i := 11) (oi := ({ dst := some 78, op := .binOp .geq 2 (.tmp 75) (.tmp 77) 2, type := 4, pos := "ref.go:105", after := #[⟨8, .data⟩, ⟨10, .data⟩, ⟨6, .guard⟩], guard := some (6, true) } : Go.Oper)) (v := ?v40) rfl (by kernel_rfl) (by kernel_rfl) (by kernel_rfl) (fun _ _ _ h => h) (Or.inl ⟨by rfl, ?hy40⟩) (by assumption) ?rest40
          case hy40 => (intro w hSw; (try dsimp only at hSw); go_simp; (try with_reducible rfl))
          (try simp only [Act.put, List.getElem_toArray, List.getElem_cons_zero, List.getElem_cons_succ, List.setIfInBounds_toArray, List.set_cons_zero, List.set_cons_succ])
          refine wpAnyH_take (i := 12) (oi := ({ dst := some 79, op := .pick (.tmp 73) (.tmp 78) (.const (.bool false)), type := 4, pos := "ref.go:105", after := #[⟨6, .data⟩, ⟨11, .data⟩], guard := none } : Go.Oper)) (v := ?v41) rfl (by kernel_rfl) (by kernel_rfl) (by kernel_rfl) (fun _ _ _ h => h) (Or.inl ⟨by rfl, ?hy41⟩) (by assumption) ?rest41
          case hy41 => (intro w hSw; (try dsimp only at hSw); go_simp; (try with_reducible rfl))
          (try simp only [Act.put, List.getElem_toArray, List.getElem_cons_zero, List.getElem_cons_succ, List.setIfInBounds_toArray, List.set_cons_zero, List.set_cons_succ])
          refine wpAnyH_take (i := 13) (oi := ({ dst := some 80, op := .move (.tmp 79), type := 4, pos := "ref.go:105", after := #[⟨12, .data⟩, ⟨6, .chain⟩], guard := none } : Go.Oper)) (v := ?v42) rfl (by kernel_rfl) (by kernel_rfl) (by kernel_rfl) (fun _ _ _ h => h) (Or.inl ⟨by rfl, ?hy42⟩) (by assumption) ?rest42
          case hy42 => (intro w hSw; (try dsimp only at hSw); go_simp; (try with_reducible rfl))
          (try simp only [Act.put, List.getElem_toArray, List.getElem_cons_zero, List.getElem_cons_succ, List.setIfInBounds_toArray, List.set_cons_zero, List.set_cons_succ])
          refine wpAnyH_take (i := 14) (oi := ({ dst := some 81, op := .fieldAddr 29 (.tmp 3) 3, type := 0, pos := "ref.go:105", after := #[⟨13, .guard⟩], guard := some (13, true) } : Go.Oper)) (v := undef) rfl (by kernel_rfl) (by kernel_rfl) (by kernel_rfl) (fun _ _ _ h => h) (Or.inr ⟨by rfl, rfl⟩) (by assumption) ?_
          (try simp only [Act.put, List.getElem_toArray, List.getElem_cons_zero, List.getElem_cons_succ, List.setIfInBounds_toArray, List.set_cons_zero, List.set_cons_succ])
          refine wpAnyH_take (i := 15) (oi := ({ dst := some 82, op := .load 2 (.tmp 81), type := 2, pos := "ref.go:105", after := #[⟨14, .data⟩, ⟨13, .guard⟩], guard := some (13, true) } : Go.Oper)) (v := undef) rfl (by kernel_rfl) (by kernel_rfl) (by kernel_rfl) (fun _ _ _ h => h) (Or.inr ⟨by rfl, rfl⟩) (by assumption) ?_
          (try simp only [Act.put, List.getElem_toArray, List.getElem_cons_zero, List.getElem_cons_succ, List.setIfInBounds_toArray, List.set_cons_zero, List.set_cons_succ])
          refine wpAnyH_take (i := 16) (oi := ({ dst := some 83, op := .fieldAddr 24 (.tmp 2) 1, type := 0, pos := "ref.go:105", after := #[⟨13, .guard⟩], guard := some (13, true) } : Go.Oper)) (v := undef) rfl (by kernel_rfl) (by kernel_rfl) (by kernel_rfl) (fun _ _ _ h => h) (Or.inr ⟨by rfl, rfl⟩) (by assumption) ?_
          (try simp only [Act.put, List.getElem_toArray, List.getElem_cons_zero, List.getElem_cons_succ, List.setIfInBounds_toArray, List.set_cons_zero, List.set_cons_succ])
          refine wpAnyH_take (i := 17) (oi := ({ dst := some 84, op := .load 2 (.tmp 83), type := 2, pos := "ref.go:105", after := #[⟨16, .data⟩, ⟨13, .guard⟩], guard := some (13, true) } : Go.Oper)) (v := undef) rfl (by kernel_rfl) (by kernel_rfl) (by kernel_rfl) (fun _ _ _ h => h) (Or.inr ⟨by rfl, rfl⟩) (by assumption) ?_
          (try simp only [Act.put, List.getElem_toArray, List.getElem_cons_zero, List.getElem_cons_succ, List.setIfInBounds_toArray, List.set_cons_zero, List.set_cons_succ])
          refine wpAnyH_take (i := 18) (oi := ({ dst := some 85, op := .binOp .geq 2 (.tmp 82) (.tmp 84) 2, type := 4, pos := "ref.go:105", after := #[⟨15, .data⟩, ⟨17, .data⟩, ⟨13, .guard⟩], guard := some (13, true) } : Go.Oper)) (v := undef) rfl (by kernel_rfl) (by kernel_rfl) (by kernel_rfl) (fun _ _ _ h => h) (Or.inr ⟨by rfl, rfl⟩) (by assumption) ?_
          (try simp only [Act.put, List.getElem_toArray, List.getElem_cons_zero, List.getElem_cons_succ, List.setIfInBounds_toArray, List.set_cons_zero, List.set_cons_succ])
          refine wpAnyH_take (i := 19) (oi := ({ dst := some 86, op := .pick (.tmp 80) (.tmp 85) (.const (.bool false)), type := 4, pos := "ref.go:105", after := #[⟨13, .data⟩, ⟨18, .data⟩], guard := none } : Go.Oper)) (v := ?v43) rfl (by kernel_rfl) (by kernel_rfl) (by kernel_rfl) (fun _ _ _ h => h) (Or.inl ⟨by rfl, ?hy43⟩) (by assumption) ?rest43
          case hy43 => (intro w hSw; (try dsimp only at hSw); go_simp; (try with_reducible rfl))
          (try simp only [Act.put, List.getElem_toArray, List.getElem_cons_zero, List.getElem_cons_succ, List.setIfInBounds_toArray, List.set_cons_zero, List.set_cons_succ])
          refine wpAnyH_take (i := 20) (oi := ({ dst := some 87, op := .move (.tmp 86), type := 4, pos := "ref.go:105", after := #[⟨19, .data⟩, ⟨13, .chain⟩], guard := none } : Go.Oper)) (v := ?v44) rfl (by kernel_rfl) (by kernel_rfl) (by kernel_rfl) (fun _ _ _ h => h) (Or.inl ⟨by rfl, ?hy44⟩) (by assumption) ?rest44
          case hy44 => (intro w hSw; (try dsimp only at hSw); go_simp; (try with_reducible rfl))
          (try simp only [Act.put, List.getElem_toArray, List.getElem_cons_zero, List.getElem_cons_succ, List.setIfInBounds_toArray, List.set_cons_zero, List.set_cons_succ])
          refine wpAnyH_take (i := 21) (oi := ({ dst := some 88, op := .fieldAddr 29 (.tmp 3) 4, type := 0, pos := "ref.go:105", after := #[⟨20, .guard⟩], guard := some (20, true) } : Go.Oper)) (v := undef) rfl (by kernel_rfl) (by kernel_rfl) (by kernel_rfl) (fun _ _ _ h => h) (Or.inr ⟨by rfl, rfl⟩) (by assumption) ?_
          (try simp only [Act.put, List.getElem_toArray, List.getElem_cons_zero, List.getElem_cons_succ, List.setIfInBounds_toArray, List.set_cons_zero, List.set_cons_succ])
          refine wpAnyH_take (i := 22) (oi := ({ dst := some 89, op := .load 2 (.tmp 88), type := 2, pos := "ref.go:105", after := #[⟨21, .data⟩, ⟨20, .guard⟩], guard := some (20, true) } : Go.Oper)) (v := undef) rfl (by kernel_rfl) (by kernel_rfl) (by kernel_rfl) (fun _ _ _ h => h) (Or.inr ⟨by rfl, rfl⟩) (by assumption) ?_
          (try simp only [Act.put, List.getElem_toArray, List.getElem_cons_zero, List.getElem_cons_succ, List.setIfInBounds_toArray, List.set_cons_zero, List.set_cons_succ])
          refine wpAnyH_take (i := 23) (oi := ({ dst := some 90, op := .fieldAddr 24 (.tmp 2) 2, type := 0, pos := "ref.go:105", after := #[⟨20, .guard⟩], guard := some (20, true) } : Go.Oper)) (v := undef) rfl (by kernel_rfl) (by kernel_rfl) (by kernel_rfl) (fun _ _ _ h => h) (Or.inr ⟨by rfl, rfl⟩) (by assumption) ?_
          (try simp only [Act.put, List.getElem_toArray, List.getElem_cons_zero, List.getElem_cons_succ, List.setIfInBounds_toArray, List.set_cons_zero, List.set_cons_succ])
          refine wpAnyH_take (i := 24) (oi := ({ dst := some 91, op := .load 2 (.tmp 90), type := 2, pos := "ref.go:105", after := #[⟨23, .data⟩, ⟨20, .guard⟩], guard := some (20, true) } : Go.Oper)) (v := undef) rfl (by kernel_rfl) (by kernel_rfl) (by kernel_rfl) (fun _ _ _ h => h) (Or.inr ⟨by rfl, rfl⟩) (by assumption) ?_
          (try simp only [Act.put, List.getElem_toArray, List.getElem_cons_zero, List.getElem_cons_succ, List.setIfInBounds_toArray, List.set_cons_zero, List.set_cons_succ])
          refine wpAnyH_take (i := 25) (oi := ({ dst := some 92, op := .binOp .geq 2 (.tmp 89) (.tmp 91) 2, type := 4, pos := "ref.go:105", after := #[⟨22, .data⟩, ⟨24, .data⟩, ⟨20, .guard⟩], guard := some (20, true) } : Go.Oper)) (v := undef) rfl (by kernel_rfl) (by kernel_rfl) (by kernel_rfl) (fun _ _ _ h => h) (Or.inr ⟨by rfl, rfl⟩) (by assumption) ?_
          (try simp only [Act.put, List.getElem_toArray, List.getElem_cons_zero, List.getElem_cons_succ, List.setIfInBounds_toArray, List.set_cons_zero, List.set_cons_succ])
          refine wpAnyH_take (i := 26) (oi := ({ dst := some 93, op := .pick (.tmp 87) (.tmp 92) (.const (.bool false)), type := 4, pos := "ref.go:105", after := #[⟨20, .data⟩, ⟨25, .data⟩], guard := none } : Go.Oper)) (v := ?v45) rfl (by kernel_rfl) (by kernel_rfl) (by kernel_rfl) (fun _ _ _ h => h) (Or.inl ⟨by rfl, ?hy45⟩) (by assumption) ?rest45
          case hy45 => (intro w hSw; (try dsimp only at hSw); go_simp; (try with_reducible rfl))
          (try simp only [Act.put, List.getElem_toArray, List.getElem_cons_zero, List.getElem_cons_succ, List.setIfInBounds_toArray, List.set_cons_zero, List.set_cons_succ])
          refine wpAnyH_take (i := 27) (oi := ({ dst := some 94, op := .move (.tmp 93), type := 4, pos := "ref.go:105", after := #[⟨26, .data⟩, ⟨20, .chain⟩], guard := none } : Go.Oper)) (v := ?v46) rfl (by kernel_rfl) (by kernel_rfl) (by kernel_rfl) (fun _ _ _ h => h) (Or.inl ⟨by rfl, ?hy46⟩) (by assumption) ?rest46
          case hy46 => (intro w hSw; (try dsimp only at hSw); go_simp; (try with_reducible rfl))
          (try simp only [Act.put, List.getElem_toArray, List.getElem_cons_zero, List.getElem_cons_succ, List.setIfInBounds_toArray, List.set_cons_zero, List.set_cons_succ])
          refine wpAnyH_take (i := 28) (oi := ({ dst := some 95, op := .fieldAddr 29 (.tmp 3) 5, type := 0, pos := "ref.go:105", after := #[⟨27, .guard⟩], guard := some (27, true) } : Go.Oper)) (v := undef) rfl (by kernel_rfl) (by kernel_rfl) (by kernel_rfl) (fun _ _ _ h => h) (Or.inr ⟨by rfl, rfl⟩) (by assumption) ?_
          (try simp only [Act.put, List.getElem_toArray, List.getElem_cons_zero, List.getElem_cons_succ, List.setIfInBounds_toArray, List.set_cons_zero, List.set_cons_succ])
          refine wpAnyH_take (i := 29) (oi := ({ dst := some 96, op := .load 2 (.tmp 95), type := 2, pos := "ref.go:105", after := #[⟨28, .data⟩, ⟨27, .guard⟩], guard := some (27, true) } : Go.Oper)) (v := undef) rfl (by kernel_rfl) (by kernel_rfl) (by kernel_rfl) (fun _ _ _ h => h) (Or.inr ⟨by rfl, rfl⟩) (by assumption) ?_
          (try simp only [Act.put, List.getElem_toArray, List.getElem_cons_zero, List.getElem_cons_succ, List.setIfInBounds_toArray, List.set_cons_zero, List.set_cons_succ])
          refine wpAnyH_take (i := 30) (oi := ({ dst := some 97, op := .fieldAddr 24 (.tmp 2) 3, type := 0, pos := "ref.go:105", after := #[⟨27, .guard⟩], guard := some (27, true) } : Go.Oper)) (v := undef) rfl (by kernel_rfl) (by kernel_rfl) (by kernel_rfl) (fun _ _ _ h => h) (Or.inr ⟨by rfl, rfl⟩) (by assumption) ?_
          (try simp only [Act.put, List.getElem_toArray, List.getElem_cons_zero, List.getElem_cons_succ, List.setIfInBounds_toArray, List.set_cons_zero, List.set_cons_succ])
          refine wpAnyH_take (i := 31) (oi := ({ dst := some 98, op := .load 2 (.tmp 97), type := 2, pos := "ref.go:105", after := #[⟨30, .data⟩, ⟨27, .guard⟩], guard := some (27, true) } : Go.Oper)) (v := undef) rfl (by kernel_rfl) (by kernel_rfl) (by kernel_rfl) (fun _ _ _ h => h) (Or.inr ⟨by rfl, rfl⟩) (by assumption) ?_
          (try simp only [Act.put, List.getElem_toArray, List.getElem_cons_zero, List.getElem_cons_succ, List.setIfInBounds_toArray, List.set_cons_zero, List.set_cons_succ])
          refine wpAnyH_take (i := 32) (oi := ({ dst := some 99, op := .binOp .geq 2 (.tmp 96) (.tmp 98) 2, type := 4, pos := "ref.go:105", after := #[⟨29, .data⟩, ⟨31, .data⟩, ⟨27, .guard⟩], guard := some (27, true) } : Go.Oper)) (v := undef) rfl (by kernel_rfl) (by kernel_rfl) (by kernel_rfl) (fun _ _ _ h => h) (Or.inr ⟨by rfl, rfl⟩) (by assumption) ?_
          (try simp only [Act.put, List.getElem_toArray, List.getElem_cons_zero, List.getElem_cons_succ, List.setIfInBounds_toArray, List.set_cons_zero, List.set_cons_succ])
          refine wpAnyH_take (i := 33) (oi := ({ dst := some 100, op := .pick (.tmp 94) (.tmp 99) (.const (.bool false)), type := 4, pos := "ref.go:105", after := #[⟨27, .data⟩, ⟨32, .data⟩], guard := none } : Go.Oper)) (v := ?v47) rfl (by kernel_rfl) (by kernel_rfl) (by kernel_rfl) (fun _ _ _ h => h) (Or.inl ⟨by rfl, ?hy47⟩) (by assumption) ?rest47
          case hy47 => (intro w hSw; (try dsimp only at hSw); go_simp; (try with_reducible rfl))
          (try simp only [Act.put, List.getElem_toArray, List.getElem_cons_zero, List.getElem_cons_succ, List.setIfInBounds_toArray, List.set_cons_zero, List.set_cons_succ])
          refine wpAnyH_take (i := 34) (oi := ({ dst := some 101, op := .move (.tmp 100), type := 4, pos := "ref.go:105", after := #[⟨33, .data⟩, ⟨27, .chain⟩], guard := none } : Go.Oper)) (v := ?v48) rfl (by kernel_rfl) (by kernel_rfl) (by kernel_rfl) (fun _ _ _ h => h) (Or.inl ⟨by rfl, ?hy48⟩) (by assumption) ?rest48
          case hy48 => (intro w hSw; (try dsimp only at hSw); go_simp; (try with_reducible rfl))
          (try simp only [Act.put, List.getElem_toArray, List.getElem_cons_zero, List.getElem_cons_succ, List.setIfInBounds_toArray, List.set_cons_zero, List.set_cons_succ])
          refine wpAnyH_take (i := 35) (oi := ({ dst := some 102, op := .load 24 (.tmp 11), type := 24, pos := "ref.go:105", after := #[⟨34, .guard⟩], guard := some (34, true) } : Go.Oper)) (v := undef) rfl (by kernel_rfl) (by kernel_rfl) (by kernel_rfl) (fun _ _ _ h => h) (Or.inr ⟨by rfl, rfl⟩) (by assumption) ?_
          (try simp only [Act.put, List.getElem_toArray, List.getElem_cons_zero, List.getElem_cons_succ, List.setIfInBounds_toArray, List.set_cons_zero, List.set_cons_succ])
          refine wpAnyH_take (i := 36) (oi := ({ dst := some 103, op := .call { callee := .value (.func 8), args := #[.tmp 102], argTypes := #[24] }, type := 4, pos := "ref.go:105", after := #[⟨35, .data⟩, ⟨34, .chain⟩, ⟨34, .guard⟩], guard := some (34, true) } : Go.Oper)) (v := undef) rfl (by kernel_rfl) (by kernel_rfl) (by kernel_rfl) (fun _ _ _ h => h) (Or.inr ⟨by rfl, rfl⟩) (by assumption) ?_
          (try simp only [Act.put, List.getElem_toArray, List.getElem_cons_zero, List.getElem_cons_succ, List.setIfInBounds_toArray, List.set_cons_zero, List.set_cons_succ])
          refine wpAnyH_take (i := 37) (oi := ({ dst := some 104, op := .pick (.tmp 101) (.tmp 103) (.const (.bool false)), type := 4, pos := "ref.go:105", after := #[⟨34, .data⟩, ⟨36, .data⟩, ⟨38, .gcOnly .lateStores⟩], guard := none } : Go.Oper)) (v := ?v49) rfl (by kernel_rfl) (by kernel_rfl) (by kernel_rfl) (fun _ _ _ h => h) (Or.inl ⟨by rfl, ?hy49⟩) (by assumption) ?rest49
          case hy49 => (intro w hSw; (try dsimp only at hSw); go_simp; (try with_reducible rfl))
          (try simp only [Act.put, List.getElem_toArray, List.getElem_cons_zero, List.getElem_cons_succ, List.setIfInBounds_toArray, List.set_cons_zero, List.set_cons_succ])
          refine wpAnyH_ready (rs := [38]) (by kernel_rfl) (by simp) ?_
          refine AllReadyH.cons (o := ({ dst := none, op := .store 24 (.tmp 4) (.tmp 67), type := 0, pos := "ref.go:105", after := #[⟨0, .data⟩, ⟨36, .chain⟩, ⟨0, .phase⟩, ⟨1, .textOnly .lateStores⟩, ⟨2, .textOnly .lateStores⟩, ⟨3, .textOnly .lateStores⟩, ⟨4, .textOnly .lateStoresUnsure⟩, ⟨5, .textOnly .lateStores⟩, ⟨6, .textOnly .lateStores⟩, ⟨7, .textOnly .lateStores⟩, ⟨8, .textOnly .lateStores⟩, ⟨9, .textOnly .lateStores⟩, ⟨10, .textOnly .lateStores⟩, ⟨11, .textOnly .lateStores⟩, ⟨12, .textOnly .lateStores⟩, ⟨13, .textOnly .lateStores⟩, ⟨14, .textOnly .lateStores⟩, ⟨15, .textOnly .lateStores⟩, ⟨16, .textOnly .lateStores⟩, ⟨17, .textOnly .lateStores⟩, ⟨18, .textOnly .lateStores⟩, ⟨19, .textOnly .lateStores⟩, ⟨20, .textOnly .lateStores⟩, ⟨21, .textOnly .lateStores⟩, ⟨22, .textOnly .lateStores⟩, ⟨23, .textOnly .lateStores⟩, ⟨24, .textOnly .lateStores⟩, ⟨25, .textOnly .lateStores⟩, ⟨26, .textOnly .lateStores⟩, ⟨27, .textOnly .lateStores⟩, ⟨28, .textOnly .lateStores⟩, ⟨29, .textOnly .lateStores⟩, ⟨30, .textOnly .lateStores⟩, ⟨31, .textOnly .lateStores⟩, ⟨32, .textOnly .lateStores⟩, ⟨33, .textOnly .lateStores⟩, ⟨34, .textOnly .lateStores⟩, ⟨35, .textOnly .lateStores⟩, ⟨36, .textOnly .lateStoresUnsure⟩, ⟨37, .textOnly .lateStores⟩], guard := none } : Go.Oper)) rfl (fun K hK => ?_) AllReadyH.nil
          (first | have X38 : Ext wc w8 := (by with_reducible (repeat (first | exact Ext.rfl_ _ | assumption | refine Ext.drew ?_ | refine Ext.drewN ?_ _ | refine Ext.alloc ?_ _ | refine Ext.trans ?_ (by assumption)))) | have X38 : Ext wc wc := Ext.rfl_ wc); have HC28 := Lib.hid (((Ext.below X38).block _ (Array.getElem?_eq_some_iff.1 HC2.out).1).trans HC2.out); have HO8 := Lib.hid (HO6.out.ext X38); have X8 := Lib.hid (XF.out.trans X38); obtain ⟨r0, r1, r2, r3, r4, s0, s1, s2, s3, s4⟩ := box5 HC28.out (Ext.rfl_ _); go_simp
          refine hK.out _ _ (by (try dsimp only); (refine HS16.out _ ?_; first | exact ((X38.grownBy _).trans_ (grown5 _ _ _ _ _ _ _)).drew_ | exact (X38.grownBy _).trans_ (grown5 _ _ _ _ _ _ _) | (refine Ext.grownBy ?_ _; (with_reducible (repeat (first | exact Ext.rfl_ _ | assumption | refine Ext.drew ?_ | refine Ext.alloc ?_ _ | refine Ext.trans ?_ (by assumption))))))) (fun hHeld => ?_)
          clear hK K
          (try simp only [Act.put, List.getElem_toArray, List.getElem_cons_zero, List.getElem_cons_succ, List.setIfInBounds_toArray, List.set_cons_zero, List.set_cons_succ])
          refine wpAnyH_take (i := 39) (oi := ({ dst := some 5, op := .assign (.tmp 104), type := 4, pos := "ref.go:105", after := #[⟨37, .data⟩, ⟨38, .chain⟩, ⟨0, .phase⟩, ⟨1, .phase⟩, ⟨2, .phase⟩, ⟨3, .phase⟩, ⟨4, .phase⟩, ⟨5, .phase⟩, ⟨6, .phase⟩, ⟨7, .phase⟩, ⟨8, .phase⟩, ⟨9, .phase⟩, ⟨10, .phase⟩, ⟨11, .phase⟩, ⟨12, .phase⟩, ⟨13, .phase⟩, ⟨14, .phase⟩, ⟨15, .phase⟩, ⟨16, .phase⟩, ⟨17, .phase⟩, ⟨18, .phase⟩, ⟨19, .phase⟩, ⟨20, .phase⟩, ⟨21, .phase⟩, ⟨22, .phase⟩, ⟨23, .phase⟩, ⟨24, .phase⟩, ⟨25, .phase⟩, ⟨26, .phase⟩, ⟨27, .phase⟩, ⟨28, .phase⟩, ⟨29, .phase⟩, ⟨30, .phase⟩, ⟨31, .phase⟩, ⟨32, .phase⟩, ⟨33, .phase⟩, ⟨34, .phase⟩, ⟨35, .phase⟩, ⟨36, .phase⟩, ⟨37, .phase⟩, ⟨38, .phase⟩], guard := none } : Go.Oper)) (v := ?v50) rfl (by kernel_rfl) (by kernel_rfl) (by kernel_rfl) (fun _ _ _ h => h) (Or.inl ⟨by rfl, ?hy50⟩) (by assumption) ?rest50
          case hy50 => (intro w hSw; (try dsimp only at hSw); go_simp; (try with_reducible rfl))
          (try simp only [Act.put, List.getElem_toArray, List.getElem_cons_zero, List.getElem_cons_succ, List.setIfInBounds_toArray, List.set_cons_zero, List.set_cons_succ])
          refine wpAnyH_done (by kernel_rfl) ?_ _
          all_goals
            obtain ⟨z0, z1, z2, z3, z4, _⟩ := box5 (set5 HC28.out (.int .i64 y.next) (.int .i64 y.log) (.int .i64 y.index) (.int .i64 y.seq) (.slice A6 n6 c6)) (Ext.rfl_ _)
            have HO9 := (HO8.out.other HC28.out (by decide) (by decide) noU8 (grown5 _ _ (.int .i64 y.next) (.int .i64 y.log) (.int .i64 y.index) (.int .i64 y.seq) (.slice A6 n6 c6)))
            go_wp2
            refine bodyPost_ret (v := .tuple #[.agg #[.int .i64 y.next, .int .i64 y.log, .int .i64 y.index, .int .i64 y.seq, .slice A6 n6 c6], .bool false]) (by simp [results, Try.f11, go_sem, z0, z1, z2, z3, z4]) rfl ?_
            exact ⟨_, by rw [HR.out], (ownT_ver2 y (HO9.ext (Ext.drew (Ext.rfl_ _))) (by rw [srtT_len, List.length_append]; unfold B47; omega)).out, (extSet5 X8.out HQ2.out _ _ _ _ _).drew⟩
        have d1 : decide (x.next ≤ y.next) = true := by simp [k1]
        by_cases k2 : x.log ≤ y.log
        rotate_left
        · have HR : Hid (rdoB x y = false) := Lib.hid (rdoB_no fun h => k2 (by have := h.2.2.1; omega))
          have d2 : decide (x.log ≤ y.log) = false := by simp [k2]
          clear k2
          go_wp2
          refine wp_region_held_drew (S := (fun W => (W.cell? ⟨w.heap.size, 0, none⟩ = some (.int .i64 x.next) ∧ W.cell? ⟨w.heap.size, 1, none⟩ = some (.int .i64 x.log) ∧ W.cell? ⟨w.heap.size, 2, none⟩ = some (.int .i64 x.index) ∧ W.cell? ⟨w.heap.size, 3, none⟩ = some (.int .i64 x.seq) ∧ W.cell? ⟨w.heap.size, 4, none⟩ = some (.slice A x.ts.length c)) ∧ (W.cell? ⟨q1, 0, none⟩ = some (.slice D y.drop.length dc) ∧ W.cell? ⟨q1, 1, none⟩ = some (.slice B y.add.length d) ∧ W.cell? ⟨q1, 2, none⟩ = some (.int .i64 y.next) ∧ W.cell? ⟨q1, 3, none⟩ = some (.int .i64 y.log) ∧ W.cell? ⟨q1, 4, none⟩ = some (.int .i64 y.index) ∧ W.cell? ⟨q1, 5, none⟩ = some (.int .i64 y.seq)) ∧ (W.cell? ⟨o, 0, none⟩ = some (.int .i64 y.next) ∧ W.cell? ⟨o, 1, none⟩ = some (.int .i64 y.log) ∧ W.cell? ⟨o, 2, none⟩ = some (.int .i64 y.index) ∧ W.cell? ⟨o, 3, none⟩ = some (.int .i64 y.seq) ∧ W.cell? ⟨o, 4, none⟩ = some (.slice A6 n6 c6)))) (by kernel_rfl) (by (try dsimp only); (refine HS16.out _ ?_; first | exact ((X38.grownBy _).trans_ (grown5 _ _ _ _ _ _ _)).drew_ | exact (X38.grownBy _).trans_ (grown5 _ _ _ _ _ _ _) | (refine Ext.grownBy ?_ _; (with_reducible (repeat (first | exact Ext.rfl_ _ | assumption | refine Ext.drew ?_ | refine Ext.alloc ?_ _ | refine Ext.trans ?_ (by assumption))))))) (fun hHeld => ?_)
          refine wpAnyH_take (i := 0) (oi := ({ dst := some 67, op := .load 24 (.tmp 11), type := 24, pos := "ref.go:105", after := #[], guard := none } : Go.Oper)) (v := ?v51) rfl (by kernel_rfl) (by kernel_rfl) (by kernel_rfl) (fun _ _ _ h => h) (Or.inl ⟨by rfl, ?hy51⟩) (by assumption) ?rest51
          case hy51 => (intro w hSw; (try dsimp only at hSw); go_simp; (try with_reducible rfl))
          (try simp only [Act.put, List.getElem_toArray, List.getElem_cons_zero, List.getElem_cons_succ, List.setIfInBounds_toArray, List.set_cons_zero, List.set_cons_succ])
          refine wpAnyH_take (i := 1) (oi := ({ dst := some 68, op := .move (.tmp 7), type := 3, pos := "ref.go:105", after := #[], guard := none } : Go.Oper)) (v := ?v52) rfl (by kernel_rfl) (by kernel_rfl) (by kernel_rfl) (fun _ _ _ h => h) (Or.inl ⟨by rfl, ?hy52⟩) (by assumption) ?rest52
          case hy52 => (intro w hSw; (try dsimp only at hSw); go_simp; (try with_reducible rfl))
          (try simp only [Act.put, List.getElem_toArray, List.getElem_cons_zero, List.getElem_cons_succ, List.setIfInBounds_toArray, List.set_cons_zero, List.set_cons_succ])
          refine wpAnyH_take (i := 2) (oi := ({ dst := some 69, op := .fieldAddr 29 (.tmp 3) 0, type := 0, pos := "ref.go:105", after := #[], guard := none } : Go.Oper)) (v := ?v53) rfl (by kernel_rfl) (by kernel_rfl) (by kernel_rfl) (fun _ _ _ h => h) (Or.inl ⟨by rfl, ?hy53⟩) (by assumption) ?rest53
          case hy53 => (intro w hSw; (try dsimp only at hSw); go_simp; (try with_reducible rfl))
          (try simp only [Act.put, List.getElem_toArray, List.getElem_cons_zero, List.getElem_cons_succ, List.setIfInBounds_toArray, List.set_cons_zero, List.set_cons_succ])
          refine wpAnyH_take (i := 3) (oi := ({ dst := some 70, op := .load 27 (.tmp 69), type := 27, pos := "ref.go:105", after := #[⟨2, .data⟩], guard := none } : Go.Oper)) (v := ?v54) rfl (by kernel_rfl) (by kernel_rfl) (by kernel_rfl) (fun _ _ _ h => h) (Or.inl ⟨by rfl, ?hy54⟩) (by assumption) ?rest54
          case hy54 => (intro w hSw; (try dsimp only at hSw); go_simp; (try with_reducible rfl))
          (try simp only [Act.put, List.getElem_toArray, List.getElem_cons_zero, List.getElem_cons_succ, List.setIfInBounds_toArray, List.set_cons_zero, List.set_cons_succ])
          refine wpAnyH_take (i := 4) (oi := ({ dst := some 71, op := .call { callee := .builtin .len, args := #[.tmp 70], argTypes := #[27] }, type := 3, pos := "ref.go:105", after := #[⟨3, .data⟩], guard := none } : Go.Oper)) (v := ?v55) rfl (by kernel_rfl) (by kernel_rfl) (by kernel_rfl) (fun _ _ _ h => h) (Or.inl ⟨by rfl, ?hy55⟩) (by assumption) ?rest55
          case hy55 => (intro w hSw; (try dsimp only at hSw); go_simp; (try with_reducible rfl))
          (try simp only [Act.put, List.getElem_toArray, List.getElem_cons_zero, List.getElem_cons_succ, List.setIfInBounds_toArray, List.set_cons_zero, List.set_cons_succ])
          refine wpAnyH_take (i := 5) (oi := ({ dst := some 72, op := .binOp .eql 3 (.tmp 68) (.tmp 71) 3, type := 4, pos := "ref.go:105", after := #[⟨1, .data⟩, ⟨4, .data⟩], guard := none } : Go.Oper)) (v := ?v56) rfl (by kernel_rfl) (by kernel_rfl) (by kernel_rfl) (fun _ _ _ h => h) (Or.inl ⟨by rfl, ?hy56⟩) (by assumption) ?rest56
          case hy56 => (intro w hSw; (try dsimp only at hSw); go_simp; (try with_reducible rfl))
          (try simp only [Act.put, List.getElem_toArray, List.getElem_cons_zero, List.getElem_cons_succ, List.setIfInBounds_toArray, List.set_cons_zero, List.set_cons_succ])
          refine wpAnyH_take (i := 6) (oi := ({ dst := some 73, op := .move (.tmp 72), type := 4, pos := "ref.go:105", after := #[⟨5, .data⟩], guard := none } : Go.Oper)) (v := ?v57) rfl (by kernel_rfl) (by kernel_rfl) (by kernel_rfl) (fun _ _ _ h => h) (Or.inl ⟨by rfl, ?hy57⟩) (by assumption) ?rest57
          case hy57 => (intro w hSw; (try dsimp only at hSw); go_simp; (try with_reducible rfl))
          (try simp only [Act.put, List.getElem_toArray, List.getElem_cons_zero, List.getElem_cons_succ, List.setIfInBounds_toArray, List.set_cons_zero, List.set_cons_succ])
          refine wpAnyH_take (i := 7) (oi := ({ dst := some 74, op := .fieldAddr 29 (.tmp 3) 2, type := 0, pos := "ref.go:105", after := #[⟨6, .guard⟩], guard := some (6, true) } : Go.Oper)) (v := ?v58) rfl (by kernel_rfl) (by kernel_rfl) (by kernel_rfl) (fun _ _ _ h => h) (Or.inl ⟨by rfl, ?hy58⟩) (by assumption) ?rest58
          case hy58 => (intro w hSw; (try dsimp only at hSw); go_simp; (try with_reducible rfl))
          (try simp only [Act.put, List.getElem_toArray, List.getElem_cons_zero, List.getElem_cons_succ, List.setIfInBounds_toArray, List.set_cons_zero, List.set_cons_succ])
          refine wpAnyH_take (i := 8) (oi := ({ dst := some 75, op := .load 2 (.tmp 74), type := 2, pos := "ref.go:105", after := #[⟨7, .data⟩, ⟨6, .guard⟩], guard := some (6, true) } : Go.Oper)) (v := ?v59) rfl (by kernel_rfl) (by kernel_rfl) (by kernel_rfl) (fun _ _ _ h => h) (Or.inl ⟨by rfl, ?hy59⟩) (by assumption) ?rest59
          case hy59 => (intro w hSw; (try dsimp only at hSw); go_simp; (try with_reducible rfl))
          (try simp only [Act.put, List.getElem_toArray, List.getElem_cons_zero, List.getElem_cons_succ, List.setIfInBounds_toArray, List.set_cons_zero, List.set_cons_succ])
          refine wpAnyH_take (i := 9) (oi := ({ dst := some 76, op := .fieldAddr 24 (.tmp 2) 0, type := 0, pos := "ref.go:105", after := #[⟨6, .guard⟩], guard := some (6, true) } : Go.Oper)) (v := ?v60) rfl (by kernel_rfl) (by kernel_rfl) (by kernel_rfl) (fun _ _ _ h => h) (Or.inl ⟨by rfl, ?hy60⟩) (by assumption) ?rest60
          case hy60 => (intro w hSw; (try dsimp only at hSw); go_simp; (try with_reducible rfl))
          (try simp only [Act.put, List.getElem_toArray, List.getElem_cons_zero, List.getElem_cons_succ, List.setIfInBounds_toArray, List.set_cons_zero, List.set_cons_succ])
          refine wpAnyH_take (i := 10) (oi := ({ dst := some 77, op := .load 2 (.tmp 76), type := 2, pos := "ref.go:105", after := #[⟨9, .data⟩, ⟨6, .guard⟩], guard := some (6, true) } : Go.Oper)) (v := ?v61) rfl (by kernel_rfl) (by kernel_rfl) (by kernel_rfl) (fun _ _ _ h => h) (Or.inl ⟨by rfl, ?hy61⟩) (by assumption) ?rest61
          case hy61 => (intro w hSw; (try dsimp only at hSw); go_simp; (try with_reducible rfl))
          (try simp only [Act.put, List.getElem_toArray, List.getElem_cons_zero, List.getElem_cons_succ, List.setIfInBounds_toArray, List.set_cons_zero, List.set_cons_succ])
          refine wpAnyH_take (i := 11) (oi := ({ dst := some 78, op := .binOp .geq 2 (.tmp 75) (.tmp 77) 2, type := 4, pos := "ref.go:105", after := #[⟨8, .data⟩, ⟨10, .data⟩, ⟨6, .guard⟩], guard := some (6, true) } : Go.Oper)) (v := ?v62) rfl (by kernel_rfl) (by kernel_rfl) (by kernel_rfl) (fun _ _ _ h => h) (Or.inl ⟨by rfl, ?hy62⟩) (by assumption) ?rest62
          case hy62 => (intro w hSw; (try dsimp only at hSw); go_simp; (try with_reducible rfl))
          (try simp only [Act.put, List.getElem_toArray, List.getElem_cons_zero, List.getElem_cons_succ, List.setIfInBounds_toArray, List.set_cons_zero, List.set_cons_succ])
          refine wpAnyH_take (i := 12) (oi := ({ dst := some 79, op := .pick (.tmp 73) (.tmp 78) (.const (.bool false)), type := 4, pos := "ref.go:105", after := #[⟨6, .data⟩, ⟨11, .data⟩], guard := none } : Go.Oper)) (v := ?v63) rfl (by kernel_rfl) (by kernel_rfl) (by kernel_rfl) (fun _ _ _ h => h) (Or.inl ⟨by rfl, ?hy63⟩) (by assumption) ?rest63
          case hy63 => (intro w hSw; (try dsimp only at hSw); go_simp; (try with_reducible rfl))
          (try simp only [Act.put, List.getElem_toArray, List.getElem_cons_zero, List.getElem_cons_succ, List.setIfInBounds_toArray, List.set_cons_zero, List.set_cons_succ])
          refine wpAnyH_take (i := 13) (oi := ({ dst := some 80, op := .move (.tmp 79), type := 4, pos := "ref.go:105", after := #[⟨12, .data⟩, ⟨6, .chain⟩], guard := none } : Go.Oper)) (v := ?v64) rfl (by kernel_rfl) (by kernel_rfl) (by kernel_rfl) (fun _ _ _ h => h) (Or.inl ⟨by rfl, ?hy64⟩) (by assumption) ?rest64
          case hy64 => (intro w hSw; (try dsimp only at hSw); go_simp; (try with_reducible rfl))
          (try simp only [Act.put, List.getElem_toArray, List.getElem_cons_zero, List.getElem_cons_succ, List.setIfInBounds_toArray, List.set_cons_zero, List.set_cons_succ])
          refine wpAnyH_take (i := 14) (oi := ({ dst := some 81, op := .fieldAddr 29 (.tmp 3) 3, type := 0, pos := "ref.go:105", after := #[⟨13, .guard⟩], guard := some (13, true) } : Go.Oper)) (v := ?v65) rfl (by kernel_rfl) (by kernel_rfl) (by kernel_rfl) (fun _ _ _ h => h) (Or.inl ⟨by rfl, ?hy65⟩) (by assumption) ?rest65
          case hy65 => (intro w hSw; (try dsimp only at hSw); go_simp; (try with_reducible rfl))
          (try simp only [Act.put, List.getElem_toArray, List.getElem_cons_zero, List.getElem_cons_succ, List.setIfInBounds_toArray, List.set_cons_zero, List.set_cons_succ])
          refine wpAnyH_take (i := 15) (oi := ({ dst := some 82, op := .load 2 (.tmp 81), type := 2, pos := "ref.go:105", after := #[⟨14, .data⟩, ⟨13, .guard⟩], guard := some (13, true) } : Go.Oper)) (v := ?v66) rfl (by kernel_rfl) (by kernel_rfl) (by kernel_rfl) (fun _ _ _ h => h) (Or.inl ⟨by rfl, ?hy66⟩) (by assumption) ?rest66
          case hy66 => (intro w hSw; (try dsimp only at hSw); go_simp; (try with_reducible rfl))
          (try simp only [Act.put, List.getElem_toArray, List.getElem_cons_zero, List.getElem_cons_succ, List.setIfInBounds_toArray, List.set_cons_zero, List.set_cons_succ])
          refine wpAnyH_take (i := 16) (oi := ({ dst := some 83, op := .fieldAddr 24 (.tmp 2) 1, type := 0, pos := "ref.go:105", after := #[⟨13, .guard⟩], guard := some (13, true) } : Go.Oper)) (v := ?v67) rfl (by kernel_rfl) (by kernel_rfl) (by kernel_rfl) (fun _ _ _ h => h) (Or.inl ⟨by rfl, ?hy67⟩) (by assumption) ?rest67
          case hy67 => (intro w hSw; (try dsimp only at hSw); go_simp; (try with_reducible rfl))
          (try simp only [Act.put, List.getElem_toArray, List.getElem_cons_zero, List.getElem_cons_succ, List.setIfInBounds_toArray, List.set_cons_zero, List.set_cons_succ])
          refine wpAnyH_take (i := 17) (oi := ({ dst := some 84, op := .load 2 (.tmp 83), type := 2, pos := "ref.go:105", after := #[⟨16, .data⟩, ⟨13, .guard⟩], guard := some (13, true) } : Go.Oper)) (v := ?v68) rfl (by kernel_rfl) (by kernel_rfl) (by kernel_rfl) (fun _ _ _ h => h) (Or.inl ⟨by rfl, ?hy68⟩) (by assumption) ?rest68
          case hy68 => (intro w hSw; (try dsimp only at hSw); go_simp; (try with_reducible rfl))
          (try simp only [Act.put, List.getElem_toArray, List.getElem_cons_zero, List.getElem_cons_succ, List.setIfInBounds_toArray, List.set_cons_zero, List.set_cons_succ])
          refine wpAnyH_take (i := 18) (oi := ({ dst := some 85, op := .binOp .geq 2 (.tmp 82) (.tmp 84) 2, type := 4, pos := "ref.go:105", after := #[⟨15, .data⟩, ⟨17, .data⟩, ⟨13, .guard⟩], guard := some (13, true) } : Go.Oper)) (v := ?v69) rfl (by kernel_rfl) (by kernel_rfl) (by kernel_rfl) (fun _ _ _ h => h) (Or.inl ⟨by rfl, ?hy69⟩) (by assumption) ?rest69
          case hy69 => (intro w hSw; (try dsimp only at hSw); go_simp; (try with_reducible rfl))
          (try simp only [Act.put, List.getElem_toArray, List.getElem_cons_zero, List.getElem_cons_succ, List.setIfInBounds_toArray, List.set_cons_zero, List.set_cons_succ])
          refine wpAnyH_take (i := 19) (oi := ({ dst := some 86, op := .pick (.tmp 80) (.tmp 85) (.const (.bool false)), type := 4, pos := "ref.go:105", after := #[⟨13, .data⟩, ⟨18, .data⟩], guard := none } : Go.Oper)) (v := ?v70) rfl (by kernel_rfl) (by kernel_rfl) (by kernel_rfl) (fun _ _ _ h => h) (Or.inl ⟨by rfl, ?hy70⟩) (by assumption) ?rest70
          case hy70 => (intro w hSw; (try dsimp only at hSw); go_simp; (try with_reducible rfl))
          (try simp only [Act.put, List.getElem_toArray, List.getElem_cons_zero, List.getElem_cons_succ, List.setIfInBounds_toArray, List.set_cons_zero, List.set_cons_succ])
          refine wpAnyH_take (i := 20) (oi := ({ dst := some 87, op := .move (.tmp 86), type := 4, pos := "ref.go:105", after := #[⟨19, .data⟩, ⟨13, .chain⟩], guard := none } : Go.Oper)) (v := ?v71) rfl (by kernel_rfl) (by kernel_rfl) (by kernel_rfl) (fun _ _ _ h => h) (Or.inl ⟨by rfl, ?hy71⟩) (by assumption) ?rest71
          case hy71 => (intro w hSw; (try dsimp only at hSw); go_simp; (try with_reducible rfl))
          (try simp only [Act.put, List.getElem_toArray, List.getElem_cons_zero, List.getElem_cons_succ, List.setIfInBounds_toArray, List.set_cons_zero, List.set_cons_succ])
          refine wpAnyH_take (i := 21) (oi := ({ dst := some 88, op := .fieldAddr 29 (.tmp 3) 4, type := 0, pos := "ref.go:105", after := #[⟨20, .guard⟩], guard := some (20, true) } : Go.Oper)) (v := undef) rfl (by kernel_rfl) (by kernel_rfl) (by kernel_rfl) (fun _ _ _ h => h) (Or.inr ⟨by rfl, rfl⟩) (by assumption) ?_
          (try simp only [Act.put, List.getElem_toArray, List.getElem_cons_zero, List.getElem_cons_succ, List.setIfInBounds_toArray, List.set_cons_zero, List.set_cons_succ])
          refine wpAnyH_take (i := 22) (oi := ({ dst := some 89, op := .load 2 (.tmp 88), type := 2, pos := "ref.go:105", after := #[⟨21, .data⟩, ⟨20, .guard⟩], guard := some (20, true) } : Go.Oper)) (v := undef) rfl (by kernel_rfl) (by kernel_rfl) (by kernel_rfl) (fun _ _ _ h => h) (Or.inr ⟨by rfl, rfl⟩) (by assumption) ?_
          (try simp only [Act.put, List.getElem_toArray, List.getElem_cons_zero, List.getElem_cons_succ, List.setIfInBounds_toArray, List.set_cons_zero, List.set_cons_succ])
          refine wpAnyH_take (i := 23) (oi := ({ dst := some 90, op := .fieldAddr 24 (.tmp 2) 2, type := 0, pos := "ref.go:105", after := #[⟨20, .guard⟩], guard := some (20, true) } : Go.Oper)) (v := undef) rfl (by kernel_rfl) (by kernel_rfl) (by kernel_rfl) (fun _ _ _ h => h) (Or.inr ⟨by rfl, rfl⟩) (by assumption) ?_
          (try simp only [Act.put, List.getElem_toArray, List.getElem_cons_zero, List.getElem_cons_succ, List.setIfInBounds_toArray, List.set_cons_zero, List.set_cons_succ])
          refine wpAnyH_take (i := 24) (oi := ({ dst := some 91, op := .load 2 (.tmp 90), type := 2, pos := "ref.go:105", after := #[⟨23, .data⟩, ⟨20, .guard⟩], guard := some (20, true) } : Go.Oper)) (v := undef) rfl (by kernel_rfl) (by kernel_rfl) (by kernel_rfl) (fun _ _ _ h => h) (Or.inr ⟨by rfl, rfl⟩) (by assumption) ?_
          (try simp only [Act.put, List.getElem_toArray, List.getElem_cons_zero, List.getElem_cons_succ, List.setIfInBounds_toArray, List.set_cons_zero, List.set_cons_succ])
          refine wpAnyH_take (i := 25) (oi := ({ dst := some 92, op := .binOp .geq 2 (.tmp 89) (.tmp 91) 2, type := 4, pos := "ref.go:105", after := #[⟨22, .data⟩, ⟨24, .data⟩, ⟨20, .guard⟩], guard := some (20, true) } : Go.Oper)) (v := undef) rfl (by kernel_rfl) (by kernel_rfl) (by kernel_rfl) (fun _ _ _ h => h) (Or.inr ⟨by rfl, rfl⟩) (by assumption) ?_
          (try simp only [Act.put, List.getElem_toArray, List.getElem_cons_zero, List.getElem_cons_succ, List.setIfInBounds_toArray, List.set_cons_zero, List.set_cons_succ])
          refine wpAnyH_take (i := 26) (oi := ({ dst := some 93, op := .pick (.tmp 87) (.tmp 92) (.const (.bool false)), type := 4, pos := "ref.go:105", after := #[⟨20, .data⟩, ⟨25, .data⟩], guard := none } : Go.Oper)) (v := ?v72) rfl (by kernel_rfl) (by kernel_rfl) (by kernel_rfl) (fun _ _ _ h => h) (Or.inl ⟨by rfl, ?hy72⟩) (by assumption) ?rest72
          case hy72 => (intro w hSw; (try dsimp only at hSw); go_simp; (try with_reducible rfl))
          (try simp only [Act.put, List.getElem_toArray, List.getElem_cons_zero, List.getElem_cons_succ, List.setIfInBounds_toArray, List.set_cons_zero, List.set_cons_succ])
          refine wpAnyH_take (i := 27) (oi := ({ dst := some 94, op := .move (.tmp 93), type := 4, pos := "ref.go:105", after := #[⟨26, .data⟩, ⟨20, .chain⟩], guard := none } : Go.Oper)) (v := ?v73) rfl (by kernel_rfl) (by kernel_rfl) (by kernel_rfl) (fun _ _ _ h => h) (Or.inl ⟨by rfl, ?hy73⟩) (by assumption) ?rest73
          case hy73 => (intro w hSw; (try dsimp only at hSw); go_simp; (try with_reducible rfl))
          (try simp only [Act.put, List.getElem_toArray, List.getElem_cons_zero, List.getElem_cons_succ, List.setIfInBounds_toArray, List.set_cons_zero, List.set_cons_succ])
          refine wpAnyH_take (i := 28) (oi := ({ dst := some 95, op := .fieldAddr 29 (.tmp 3) 5, type := 0, pos := "ref.go:105", after := #[⟨27, .guard⟩], guard := some (27, true) } : Go.Oper)) (v := undef) rfl (by kernel_rfl) (by kernel_rfl) (by kernel_rfl) (fun _ _ _ h => h) (Or.inr ⟨by rfl, rfl⟩) (by assumption) ?_
          (try simp only [Act.put, List.getElem_toArray, List.getElem_cons_zero, List.getElem_cons_succ, List.setIfInBounds_toArray, List.set_cons_zero, List.set_cons_succ])
          refine wpAnyH_take (i := 29) (oi := ({ dst := some 96, op := .load 2 (.tmp 95), type := 2, pos := "ref.go:105", after := #[⟨28, .data⟩, ⟨27, .guard⟩], guard := some (27, true) } : Go.Oper)) (v := undef) rfl (by kernel_rfl) (by kernel_rfl) (by kernel_rfl) (fun _ _ _ h => h) (Or.inr ⟨by rfl, rfl⟩) (by assumption) ?_
          (try simp only [Act.put, List.getElem_toArray, List.getElem_cons_zero, List.getElem_cons_succ, List.setIfInBounds_toArray, List.set_cons_zero, List.set_cons_succ])
          refine wpAnyH_take (i := 30) (oi := ({ dst := some 97, op := .fieldAddr 24 (.tmp 2) 3, type := 0, pos := "ref.go:105", after := #[⟨27, .guard⟩], guard := some (27, true) } : Go.Oper)) (v := undef) rfl (by kernel_rfl) (by kernel_rfl) (by kernel_rfl) (fun _ _ _ h => h) (Or.inr ⟨by rfl, rfl⟩) (by assumption) ?_
          (try simp only [Act.put, List.getElem_toArray, List.getElem_cons_zero, List.getElem_cons_succ, List.setIfInBounds_toArray, List.set_cons_zero, List.set_cons_succ])
          refine wpAnyH_take (i := 31) (oi := ({ dst := some 98, op := .load 2 (.tmp 97), type := 2, pos := "ref.go:105", after := #[⟨30, .data⟩, ⟨27, .guard⟩], guard := some (27, true) } : Go.Oper)) (v := undef) rfl (by kernel_rfl) (by kernel_rfl) (by kernel_rfl) (fun _ _ _ h => h) (Or.inr ⟨by rfl, rfl⟩) (by assumption) ?_
          (try simp only [Act.put, List.getElem_toArray, List.getElem_cons_zero, List.getElem_cons_succ, List.setIfInBounds_toArray, List.set_cons_zero, List.set_cons_succ])
          refine wpAnyH_take (i := 32) (oi := ({ dst := some 99, op := .binOp .geq 2 (.tmp 96) (.tmp 98) 2, type := 4, pos := "ref.go:105", after := #[⟨29, .data⟩, ⟨31, .data⟩, ⟨27, .guard⟩], guard := some (27, true) } : Go.Oper)) (v := undef) rfl (by kernel_rfl) (by kernel_rfl) (by kernel_rfl) (fun _ _ _ h => h) (Or.inr ⟨by rfl, rfl⟩) (by assumption) ?_
          (try simp only [Act.put, List.getElem_toArray, List.getElem_cons_zero, List.getElem_cons_succ, List.setIfInBounds_toArray, List.set_cons_zero, List.set_cons_succ])
          refine wpAnyH_take (i := 33) (oi := ({ dst := some 100, op := .pick (.tmp 94) (.tmp 99) (.const (.bool false)), type := 4, pos := "ref.go:105", after := #[⟨27, .data⟩, ⟨32, .data⟩], guard := none } : Go.Oper)) (v := ?v74) rfl (by kernel_rfl) (by kernel_rfl) (by kernel_rfl) (fun _ _ _ h => h) (Or.inl ⟨by rfl, ?hy74⟩) (by assumption) ?rest74
          case hy74 => (intro w hSw; (try dsimp only at hSw); go_simp; (try with_reducible rfl))
          (try simp only [Act.put, List.getElem_toArray, List.getElem_cons_zero, List.getElem_cons_succ, List.setIfInBounds_toArray, List.set_cons_zero, List.set_cons_succ])
          refine wpAnyH_take (i := 34) (oi := ({ dst := some 101, op := .move (.tmp 100), type := 4, pos := "ref.go:105", after := #[⟨33, .data⟩, ⟨27, .chain⟩], guard := none } : Go.Oper)) (v := ?v75) rfl (by kernel_rfl) (by kernel_rfl) (by kernel_rfl) (fun _ _ _ h => h) (Or.inl ⟨by rfl, ?hy75⟩) (by assumption) ?rest75
          case hy75 => (intro w hSw; (try dsimp only at hSw); go_simp; (try with_reducible rfl))
          (try simp only [Act.put, List.getElem_toArray, List.getElem_cons_zero, List.getElem_cons_succ, List.setIfInBounds_toArray, List.set_cons_zero, List.set_cons_succ])
          refine wpAnyH_take (i := 35) (oi := ({ dst := some 102, op := .load 24 (.tmp 11), type := 24, pos := "ref.go:105", after := #[⟨34, .guard⟩], guard := some (34, true) } : Go.Oper)) (v := undef) rfl (by kernel_rfl) (by kernel_rfl) (by kernel_rfl) (fun _ _ _ h => h) (Or.inr ⟨by rfl, rfl⟩) (by assumption) ?_
          (try simp only [Act.put, List.getElem_toArray, List.getElem_cons_zero, List.getElem_cons_succ, List.setIfInBounds_toArray, List.set_cons_zero, List.set_cons_succ])
          refine wpAnyH_take (i := 36) (oi := ({ dst := some 103, op := .call { callee := .value (.func 8), args := #[.tmp 102], argTypes := #[24] }, type := 4, pos := "ref.go:105", after := #[⟨35, .data⟩, ⟨34, .chain⟩, ⟨34, .guard⟩], guard := some (34, true) } : Go.Oper)) (v := undef) rfl (by kernel_rfl) (by kernel_rfl) (by kernel_rfl) (fun _ _ _ h => h) (Or.inr ⟨by rfl, rfl⟩) (by assumption) ?_
          (try simp only [Act.put, List.getElem_toArray, List.getElem_cons_zero, List.getElem_cons_succ, List.setIfInBounds_toArray, List.set_cons_zero, List.set_cons_succ])
          refine wpAnyH_take (i := 37) (oi := ({ dst := some 104, op := .pick (.tmp 101) (.tmp 103) (.const (.bool false)), type := 4, pos := "ref.go:105", after := #[⟨34, .data⟩, ⟨36, .data⟩, ⟨38, .gcOnly .lateStores⟩], guard := none } : Go.Oper)) (v := ?v76) rfl (by kernel_rfl) (by kernel_rfl) (by kernel_rfl) (fun _ _ _ h => h) (Or.inl ⟨by rfl, ?hy76⟩) (by assumption) ?rest76
          case hy76 => (intro w hSw; (try dsimp only at hSw); go_simp; (try with_reducible rfl))
          (try simp only [Act.put, List.getElem_toArray, List.getElem_cons_zero, List.getElem_cons_succ, List.setIfInBounds_toArray, List.set_cons_zero, List.set_cons_succ])
          refine wpAnyH_ready (rs := [38]) (by kernel_rfl) (by simp) ?_
          refine AllReadyH.cons (o := ({ dst := none, op := .store 24 (.tmp 4) (.tmp 67), type := 0, pos := "ref.go:105", after := #[⟨0, .data⟩, ⟨36, .chain⟩, ⟨0, .phase⟩, ⟨1, .textOnly .lateStores⟩, ⟨2, .textOnly .lateStores⟩, ⟨3, .textOnly .lateStores⟩, ⟨4, .textOnly .lateStoresUnsure⟩, ⟨5, .textOnly .lateStores⟩, ⟨6, .textOnly .lateStores⟩, ⟨7, .textOnly .lateStores⟩, ⟨8, .textOnly .lateStores⟩, ⟨9, .textOnly .lateStores⟩, ⟨10, .textOnly .lateStores⟩, ⟨11, .textOnly .lateStores⟩, ⟨12, .textOnly .lateStores⟩, ⟨13, .textOnly .lateStores⟩, ⟨14, .textOnly .lateStores⟩, ⟨15, .textOnly .lateStores⟩, ⟨16, .textOnly .lateStores⟩, ⟨17, .textOnly .lateStores⟩, ⟨18, .textOnly .lateStores⟩, ⟨19, .textOnly .lateStores⟩, ⟨20, .textOnly .lateStores⟩, ⟨21, .textOnly .lateStores⟩, ⟨22, .textOnly .lateStores⟩, ⟨23, .textOnly .lateStores⟩, ⟨24, .textOnly .lateStores⟩, ⟨25, .textOnly .lateStores⟩, ⟨26, .textOnly .lateStores⟩, ⟨27, .textOnly .lateStores⟩, ⟨28, .textOnly .lateStores⟩, ⟨29, .textOnly .lateStores⟩, ⟨30, .textOnly .lateStores⟩, ⟨31, .textOnly .lateStores⟩, ⟨32, .textOnly .lateStores⟩, ⟨33, .textOnly .lateStores⟩, ⟨34, .textOnly .lateStores⟩, ⟨35, .textOnly .lateStores⟩, ⟨36, .textOnly .lateStoresUnsure⟩, ⟨37, .textOnly .lateStores⟩], guard := none } : Go.Oper)) rfl (fun K hK => ?_) AllReadyH.nil
          (first | have X38 : Ext wc w8 := (by with_reducible (repeat (first | exact Ext.rfl_ _ | assumption | refine Ext.drew ?_ | refine Ext.drewN ?_ _ | refine Ext.alloc ?_ _ | refine Ext.trans ?_ (by assumption)))) | have X38 : Ext wc wc := Ext.rfl_ wc); have HC28 := Lib.hid (((Ext.below X38).block _ (Array.getElem?_eq_some_iff.1 HC2.out).1).trans HC2.out); have HO8 := Lib.hid (HO6.out.ext X38); have X8 := Lib.hid (XF.out.trans X38); obtain ⟨r0, r1, r2, r3, r4, s0, s1, s2, s3, s4⟩ := box5 HC28.out (Ext.rfl_ _); go_simp
          refine hK.out _ _ (by (try dsimp only); (refine HS16.out _ ?_; first | exact ((X38.grownBy _).trans_ (grown5 _ _ _ _ _ _ _)).drew_ | exact (X38.grownBy _).trans_ (grown5 _ _ _ _ _ _ _) | (refine Ext.grownBy ?_ _; (with_reducible (repeat (first | exact Ext.rfl_ _ | assumption | refine Ext.drew ?_ | refine Ext.alloc ?_ _ | refine Ext.trans ?_ (by assumption))))))) (fun hHeld => ?_)
          clear hK K
          (try simp only [Act.put, List.getElem_toArray, List.getElem_cons_zero, List.getElem_cons_succ, List.setIfInBounds_toArray, List.set_cons_zero, List.set_cons_succ])
          refine wpAnyH_take (i := 39) (oi := ({ dst := some 5, op := .assign (.tmp 104), type := 4, pos := "ref.go:105", after := #[⟨37, .data⟩, ⟨38, .chain⟩, ⟨0, .phase⟩, ⟨1, .phase⟩, ⟨2, .phase⟩, ⟨3, .phase⟩, ⟨4, .phase⟩, ⟨5, .phase⟩, ⟨6, .phase⟩, ⟨7, .phase⟩, ⟨8, .phase⟩, ⟨9, .phase⟩, ⟨10, .phase⟩, ⟨11, .phase⟩, ⟨12, .phase⟩, ⟨13, .phase⟩, ⟨14, .phase⟩, ⟨15, .phase⟩, ⟨16, .phase⟩, ⟨17, .phase⟩, ⟨18, .phase⟩, ⟨19, .phase⟩, ⟨20, .phase⟩, ⟨21, .phase⟩, ⟨22, .phase⟩, ⟨23, .phase⟩, ⟨24, .phase⟩, ⟨25, .phase⟩, ⟨26, .phase⟩, ⟨27, .phase⟩, ⟨28, .phase⟩, ⟨29, .phase⟩, ⟨30, .phase⟩, ⟨31, .phase⟩, ⟨32, .phase⟩, ⟨33, .phase⟩, ⟨34, .phase⟩, ⟨35, .phase⟩, ⟨36, .phase⟩, ⟨37, .phase⟩, ⟨38, .phase⟩], guard := none } : Go.Oper)) (v := ?v77) rfl (by kernel_rfl) (by kernel_rfl) (by kernel_rfl) (fun _ _ _ h => h) (Or.inl ⟨by rfl, ?hy77⟩) (by assumption) ?rest77
          case hy77 => (intro w hSw; (try dsimp only at hSw); go_simp; (try with_reducible rfl))
          (try simp only [Act.put, List.getElem_toArray, List.getElem_cons_zero, List.getElem_cons_succ, List.setIfInBounds_toArray, List.set_cons_zero, List.set_cons_succ])
          refine wpAnyH_done (by kernel_rfl) ?_ _
          all_goals
            obtain ⟨z0, z1, z2, z3, z4, _⟩ := box5 (set5 HC28.out (.int .i64 y.next) (.int .i64 y.log) (.int .i64 y.index) (.int .i64 y.seq) (.slice A6 n6 c6)) (Ext.rfl_ _)
            have HO9 := (HO8.out.other HC28.out (by decide) (by decide) noU8 (grown5 _ _ (.int .i64 y.next) (.int .i64 y.log) (.int .i64 y.index) (.int .i64 y.seq) (.slice A6 n6 c6)))
            go_wp2
            refine bodyPost_ret (v := .tuple #[.agg #[.int .i64 y.next, .int .i64 y.log, .int .i64 y.index, .int .i64 y.seq, .slice A6 n6 c6], .bool false]) (by simp [results, Try.f11, go_sem, z0, z1, z2, z3, z4]) rfl ?_
            exact ⟨_, by rw [HR.out], (ownT_ver2 y (HO9.ext (Ext.drew (Ext.rfl_ _))) (by rw [srtT_len, List.length_append]; unfold B47; omega)).out, (extSet5 X8.out HQ2.out _ _ _ _ _).drew⟩
        have d2 : decide (x.log ≤ y.log) = true := by simp [k2]
        by_cases k3 : x.index ≤ y.index
        rotate_left
        · have HR : Hid (rdoB x y = false) := Lib.hid (rdoB_no fun h => k3 (by have := h.2.2.2.1; omega))
          have d3 : decide (x.index ≤ y.index) = false := by simp [k3]
          clear k3
          go_wp2
          refine wp_region_held_drew (S := (fun W => (W.cell? ⟨w.heap.size, 0, none⟩ = some (.int .i64 x.next) ∧ W.cell? ⟨w.heap.size, 1, none⟩ = some (.int .i64 x.log) ∧ W.cell? ⟨w.heap.size, 2, none⟩ = some (.int .i64 x.index) ∧ W.cell? ⟨w.heap.size, 3, none⟩ = some (.int .i64 x.seq) ∧ W.cell? ⟨w.heap.size, 4, none⟩ = some (.slice A x.ts.length c)) ∧ (W.cell? ⟨q1, 0, none⟩ = some (.slice D y.drop.length dc) ∧ W.cell? ⟨q1, 1, none⟩ = some (.slice B y.add.length d) ∧ W.cell? ⟨q1, 2, none⟩ = some (.int .i64 y.next) ∧ W.cell? ⟨q1, 3, none⟩ = some (.int .i64 y.log) ∧ W.cell? ⟨q1, 4, none⟩ = some (.int .i64 y.index) ∧ W.cell? ⟨q1, 5, none⟩ = some (.int .i64 y.seq)) ∧ (W.cell? ⟨o, 0, none⟩ = some (.int .i64 y.next) ∧ W.cell? ⟨o, 1, none⟩ = some (.int .i64 y.log) ∧ W.cell? ⟨o, 2, none⟩ = some (.int .i64 y.index) ∧ W.cell? ⟨o, 3, none⟩ = some (.int .i64 y.seq) ∧ W.cell? ⟨o, 4, none⟩ = some (.slice A6 n6 c6)))) (by kernel_rfl) (by (try dsimp only); (refine HS16.out _ ?_; first | exact ((X38.grownBy _).trans_ (grown5 _ _ _ _ _ _ _)).drew_ | exact (X38.grownBy _).trans_ (grown5 _ _ _ _ _ _ _) | (refine Ext.grownBy ?_ _; (with_reducible (repeat (first | exact Ext.rfl_ _ | assumption | refine Ext.drew ?_ | refine Ext.alloc ?_ _ | refine Ext.trans ?_ (by assumption))))))) (fun hHeld => ?_)
          refine wpAnyH_take (i := 0) (oi := ({ dst := some 67, op := .load 24 (.tmp 11), type := 24, pos := "ref.go:105", after := #[], guard := none } : Go.Oper)) (v := ?v78) rfl (by kernel_rfl) (by kernel_rfl) (by kernel_rfl) (fun _ _ _ h => h) (Or.inl ⟨by rfl, ?hy78⟩) (by assumption) ?rest78
          case hy78 => (intro w hSw; (try dsimp only at hSw); go_simp; (try with_reducible rfl))
          (try simp only [Act.put, List.getElem_toArray, List.getElem_cons_zero, List.getElem_cons_succ, List.setIfInBounds_toArray, List.set_cons_zero, List.set_cons_succ])
          refine wpAnyH_take (i := 1) (oi := ({ dst := some 68, op := .move (.tmp 7), type := 3, pos := "ref.go:105", after := #[], guard := none } : Go.Oper)) (v := ?v79) rfl (by kernel_rfl) (by kernel_rfl) (by kernel_rfl) (fun _ _ _ h => h) (Or.inl ⟨by rfl, ?hy79⟩) (by assumption) ?rest79
          case hy79 => (intro w hSw; (try dsimp only at hSw); go_simp; (try with_reducible rfl))
          (try simp only [Act.put, List.getElem_toArray, List.getElem_cons_zero, List.getElem_cons_succ, List.setIfInBounds_toArray, List.set_cons_zero, List.set_cons_succ])
          refine wpAnyH_take (i := 2) (oi := ({ dst := some 69, op := .fieldAddr 29 (.tmp 3) 0, type := 0, pos := "ref.go:105", after := #[], guard := none } : Go.Oper)) (v := ?v80) rfl (by kernel_rfl) (by kernel_rfl) (by kernel_rfl) (fun _ _ _ h => h) (Or.inl ⟨by rfl, ?hy80⟩) (by assumption) ?rest80
          case hy80 => (intro w hSw; (try dsimp only at hSw); go_simp; (try with_reducible rfl))
          (try simp only [Act.put, List.getElem_toArray, List.getElem_cons_zero, List.getElem_cons_succ, List.setIfInBounds_toArray, List.set_cons_zero, List.set_cons_succ])
          refine wpAnyH_take (i := 3) (oi := ({ dst := some 70, op := .load 27 (.tmp 69), type := 27, pos := "ref.go:105", after := #[⟨2, .data⟩], guard := none } : Go.Oper)) (v := ?v81) rfl (by kernel_rfl) (by kernel_rfl) (by kernel_rfl) (fun _ _ _ h => h) (Or.inl ⟨by rfl, ?hy81⟩) (by assumption) ?rest81
          case hy81 => (intro w hSw; (try dsimp only at hSw); go_simp; (try with_reducible rfl))
          (try simp only [Act.put, List.getElem_toArray, List.getElem_cons_zero, List.getElem_cons_succ, List.setIfInBounds_toArray, List.set_cons_zero, List.set_cons_succ])
          refine wpAnyH_take (i := 4) (oi := ({ dst := some 71, op := .call { callee := .builtin .len, args := #[.tmp 70], argTypes := #[27] }, type := 3, pos := "ref.go:105", after := #[⟨3, .data⟩], guard := none } : Go.Oper)) (v := ?v82) rfl (by kernel_rfl) (by kernel_rfl) (by kernel_rfl) (fun _ _ _ h => h) (Or.inl ⟨by rfl, ?hy82⟩) (by assumption) ?rest82
          case hy82 => (intro w hSw; (try dsimp only at hSw); go_simp; (try with_reducible rfl))
          (try simp only [Act.put, List.getElem_toArray, List.getElem_cons_zero, List.getElem_cons_succ, List.setIfInBounds_toArray, List.set_cons_zero, List.set_cons_succ])
          refine wpAnyH_take (i := 5) (oi := ({ dst := some 72, op := .binOp .eql 3 (.tmp 68) (.tmp 71) 3, type := 4, pos := "ref.go:105", after := #[⟨1, .data⟩, ⟨4, .data⟩], guard := none } : Go.Oper)) (v := ?v83) rfl (by kernel_rfl) (by kernel_rfl) (by kernel_rfl) (fun _ _ _ h => h) (Or.inl ⟨by rfl, ?hy83⟩) (by assumption) ?rest83
          case hy83 => (intro w hSw; (try dsimp only at hSw); go_simp; (try with_reducible rfl))
          (try simp only [Act.put, List.getElem_toArray, List.getElem_cons_zero, List.getElem_cons_succ, List.setIfInBounds_toArray, List.set_cons_zero, List.set_cons_succ])
          refine wpAnyH_take (i := 6) (oi := ({ dst := some 73, op := .move (.tmp 72), type := 4, pos := "ref.go:105", after := #[⟨5, .data⟩], guard := none } : Go.Oper)) (v := ?v84) rfl (by kernel_rfl) (by kernel_rfl) (by kernel_rfl) (fun _ _ _ h => h) (Or.inl ⟨by rfl, ?hy84⟩) (by assumption) ?rest84
          case hy84 => (intro w hSw; (try dsimp only at hSw); go_simp; (try with_reducible rfl))
          (try simp only [Act.put, List.getElem_toArray, List.getElem_cons_zero, List.getElem_cons_succ, List.setIfInBounds_toArray, List.set_cons_zero, List.set_cons_succ])
          refine wpAnyH_take (i := 7) (oi := ({ dst := some 74, op := .fieldAddr 29 (.tmp 3) 2, type := 0, pos := "ref.go:105", after := #[⟨6, .guard⟩], guard := some (6, true) } : Go.Oper)) (v := ?v85) rfl (by kernel_rfl) (by kernel_rfl) (by kernel_rfl) (fun _ _ _ h => h) (Or.inl ⟨by rfl, ?hy85⟩) (by assumption) ?rest85
          case hy85 => (intro w hSw; (try dsimp only at hSw); go_simp; (try with_reducible rfl))
          (try simp only [Act.put, List.getElem_toArray, List.getElem_cons_zero, List.getElem_cons_succ, List.setIfInBounds_toArray, List.set_cons_zero, List.set_cons_succ])
          refine wpAnyH_take (i := 8) (oi := ({ dst := some 75, op := .load 2 (.tmp 74), type := 2, pos := "ref.go:105", after := #[⟨7, .data⟩, ⟨6, .guard⟩], guard := some (6, true) } : Go.Oper)) (v := ?v86) rfl (by kernel_rfl) (by kernel_rfl) (by kernel_rfl) (fun _ _ _ h => h) (Or.inl ⟨by rfl, ?hy86⟩) (by assumption) ?rest86
          case hy86 => (intro w hSw; (try dsimp only at hSw); go_simp; (try with_reducible rfl))
          (try simp only [Act.put, List.getElem_toArray, List.getElem_cons_zero, List.getElem_cons_succ, List.setIfInBounds_toArray, List.set_cons_zero, List.set_cons_succ])
          refine wpAnyH_take (i := 9) (oi := ({ dst := some 76, op := .fieldAddr 24 (.tmp 2) 0, type := 0, pos := "ref.go:105", after := #[⟨6, .guard⟩], guard := some (6, true) } : Go.Oper)) (v := ?v87) rfl (by kernel_rfl) (by kernel_rfl) (by kernel_rfl) (fun _ _ _ h => h) (Or.inl ⟨by rfl, ?hy87⟩) (by assumption) ?rest87
          case hy87 => (intro w hSw; (try dsimp only at hSw); go_simp; (try with_reducible rfl))
          (try simp only [Act.put, List.getElem_toArray, List.getElem_cons_zero, List.getElem_cons_succ, List.setIfInBounds_toArray, List.set_cons_zero, List.set_cons_succ])
          refine wpAnyH_take (i := 10) (oi := ({ dst := some 77, op := .load 2 (.tmp 76), type := 2, pos := "ref.go:105", after := #[⟨9, .data⟩, ⟨6, .guard⟩], guard := some (6, true) } : Go.Oper)) (v := ?v88) rfl (by kernel_rfl) (by kernel_rfl) (by kernel_rfl) (fun _ _ _ h => h) (Or.inl ⟨by rfl, ?hy88⟩) (by assumption) ?rest88
          case hy88 => (intro w hSw; (try dsimp only at hSw); go_simp; (try with_reducible rfl))
          (try simp only [Act.put, List.getElem_toArray, List.getElem_cons_zero, List.getElem_cons_succ, List.setIfInBounds_toArray, List.set_cons_zero, List.set_cons_succ])
          refine wpAnyH_take (i := 11) (oi := ({ dst := some 78, op := .binOp .geq 2 (.tmp 75) (.tmp 77) 2, type := 4, pos := "ref.go:105", after := #[⟨8, .data⟩, ⟨10, .data⟩, ⟨6, .guard⟩], guard := some (6, true) } : Go.Oper)) (v := ?v89) rfl (by kernel_rfl) (by kernel_rfl) (by kernel_rfl) (fun _ _ _ h => h) (Or.inl ⟨by rfl, ?hy89⟩) (by assumption) ?rest89
          case hy89 => (intro w hSw; (try dsimp only at hSw); go_simp; (try with_reducible rfl))
          (try simp only [Act.put, List.getElem_toArray, List.getElem_cons_zero, List.getElem_cons_succ, List.setIfInBounds_toArray, List.set_cons_zero, List.set_cons_succ])
          refine wpAnyH_take (i := 12) (oi := ({ dst := some 79, op := .pick (.tmp 73) (.tmp 78) (.const (.bool false)), type := 4, pos := "ref.go:105", after := #[⟨6, .data⟩, ⟨11, .data⟩], guard := none } : Go.Oper)) (v := ?v90) rfl (by kernel_rfl) (by kernel_rfl) (by kernel_rfl) (fun _ _ _ h => h) (Or.inl ⟨by rfl, ?hy90⟩) (by assumption) ?rest90
          case hy90 => (intro w hSw; (try dsimp only at hSw); go_simp; (try with_reducible rfl))
          (try simp only [Act.put, List.getElem_toArray, List.getElem_cons_zero, List.getElem_cons_succ, List.setIfInBounds_toArray, List.set_cons_zero, List.set_cons_succ])
          refine wpAnyH_take (i := 13) (oi := ({ dst := some 80, op := .move (.tmp 79), type := 4, pos := "ref.go:105", after := #[⟨12, .data⟩, ⟨6, .chain⟩], guard := none } : Go.Oper)) (v := ?v91) rfl (by kernel_rfl) (by kernel_rfl) (by kernel_rfl) (fun _ _ _ h => h) (Or.inl ⟨by rfl, ?hy91⟩) (by assumption) ?rest91
          case hy91 => (intro w hSw; (try dsimp only at hSw); go_simp; (try with_reducible rfl))
          (try simp only [Act.put, List.getElem_toArray, List.getElem_cons_zero, List.getElem_cons_succ, List.setIfInBounds_toArray, List.set_cons_zero, List.set_cons_succ])
          refine wpAnyH_take (i := 14) (oi := ({ dst := some 81, op := .fieldAddr 29 (.tmp 3) 3, type := 0, pos := "ref.go:105", after := #[⟨13, .guard⟩], guard := some (13, true) } : Go.Oper)) (v := ?v92) rfl (by kernel_rfl) (by kernel_rfl) (by kernel_rfl) (fun _ _ _ h => h) (Or.inl ⟨by rfl, ?hy92⟩) (by assumption) ?rest92
          case hy92 => (intro w hSw; (try dsimp only at hSw); go_simp; (try with_reducible rfl))
          (try simp only [Act.put, List.getElem_toArray, List.getElem_cons_zero, List.getElem_cons_succ, List.setIfInBounds_toArray, List.set_cons_zero, List.set_cons_succ])
          refine wpAnyH_take (i := 15) (oi := ({ dst := some 82, op := .load 2 (.tmp 81), type := 2, pos := "ref.go:105", after := #[⟨14, .data⟩, ⟨13, .guard⟩], guard := some (13, true) } : Go.Oper)) (v := ?v93) rfl (by kernel_rfl) (by kernel_rfl) (by kernel_rfl) (fun _ _ _ h => h) (Or.inl ⟨by rfl, ?hy93⟩) (by assumption) ?rest93
          case hy93 => (intro w hSw; (try dsimp only at hSw); go_simp; (try with_reducible rfl))
          (try simp only [Act.put, List.getElem_toArray, List.getElem_cons_zero, List.getElem_cons_succ, List.setIfInBounds_toArray, List.set_cons_zero, List.set_cons_succ])
          refine wpAnyH_take (i := 16) (oi := ({ dst := some 83, op := .fieldAddr 24 (.tmp 2) 1, type := 0, pos := "ref.go:105", after := #[⟨13, .guard⟩], guard := some (13, true) } : Go.Oper)) (v := ?v94) rfl (by kernel_rfl) (by kernel_rfl) (by kernel_rfl) (fun _ _ _ h => h) (Or.inl ⟨by rfl, ?hy94⟩) (by assumption) ?rest94
          case hy94 => (intro w hSw; (try dsimp only at hSw); go_simp; (try with_reducible rfl))
          (try simp only [Act.put, List.getElem_toArray, List.getElem_cons_zero, List.getElem_cons_succ, List.setIfInBounds_toArray, List.set_cons_zero, List.set_cons_succ])
          refine wpAnyH_take (i := 17) (oi := ({ dst := some 84, op := .load 2 (.tmp 83), type := 2, pos := "ref.go:105", after := #[⟨16, .data⟩, ⟨13, .guard⟩], guard := some (13, true) } : Go.Oper)) (v := ?v95) rfl (by kernel_rfl) (by kernel_rfl) (by kernel_rfl) (fun _ _ _ h => h) (Or.inl ⟨by rfl, ?hy95⟩) (by assumption) ?rest95
          case hy95 => (intro w hSw; (try dsimp only at hSw); go_simp; (try with_reducible rfl))
          (try simp only [Act.put, List.getElem_toArray, List.getElem_cons_zero, List.getElem_cons_succ, List.setIfInBounds_toArray, List.set_cons_zero, List.set_cons_succ])
          refine wpAnyH_take (i := 18) (oi := ({ dst := some 85, op := .binOp .geq 2 (.tmp 82) (.tmp 84) 2, type := 4, pos := "ref.go:105", after := #[⟨15, .data⟩, ⟨17, .data⟩, ⟨13, .guard⟩], guard := some (13, true) } : Go.Oper)) (v := ?v96) rfl (by kernel_rfl) (by kernel_rfl) (by kernel_rfl) (fun _ _ _ h => h) (Or.inl ⟨by rfl, ?hy96⟩) (by assumption) ?rest96
          case hy96 => (intro w hSw; (try dsimp only at hSw); go_simp; (try with_reducible rfl))
          (try simp only [Act.put, List.getElem_toArray, List.getElem_cons_zero, List.getElem_cons_succ, List.setIfInBounds_toArray, List.set_cons_zero, List.set_cons_succ])
          refine wpAnyH_take (i := 19) (oi := ({ dst := some 86, op := .pick (.tmp 80) (.tmp 85) (.const (.bool false)), type := 4, pos := "ref.go:105", after := #[⟨13, .data⟩, ⟨18, .data⟩], guard := none } : Go.Oper)) (v := ?v97) rfl (by kernel_rfl) (by kernel_rfl) (by kernel_rfl) (fun _ _ _ h => h) (Or.inl ⟨by rfl, ?hy97⟩) (by assumption) ?rest97
          case hy97 => (intro w hSw; (try dsimp only at hSw); go_simp; (try with_reducible rfl))
          (try simp only [Act.put, List.getElem_toArray, List.getElem_cons_zero, List.getElem_cons_succ, List.setIfInBounds_toArray, List.set_cons_zero, List.set_cons_succ])
          refine wpAnyH_take (i := 20) (oi := ({ dst := some 87, op := .move (.tmp 86), type := 4, pos := "ref.go:105", after := #[⟨19, .data⟩, ⟨13, .chain⟩], guard := none } : Go.Oper)) (v := ?v98) rfl (by kernel_rfl) (by kernel_rfl) (by kernel_rfl) (fun _ _ _ h => h) (Or.inl ⟨by rfl, ?hy98⟩) (by assumption) ?rest98
          case hy98 => (intro w hSw; (try dsimp only at hSw); go_simp; (try with_reducible rfl))
          (try simp only [Act.put, List.getElem_toArray, List.getElem_cons_zero, List.getElem_cons_succ, List.setIfInBounds_toArray, List.set_cons_zero, List.set_cons_succ])
          refine wpAnyH_take (i := 21) (oi := ({ dst := some 88, op := .fieldAddr 29 (.tmp 3) 4, type := 0, pos := "ref.go:105", after := #[⟨20, .guard⟩], guard := some (20, true) } : Go.Oper)) (v := ?v99) rfl (by kernel_rfl) (by kernel_rfl) (by kernel_rfl) (fun _ _ _ h => h) (Or.inl ⟨by rfl, ?hy99⟩) (by assumption) ?rest99
          case hy99 => (intro w hSw; (try dsimp only at hSw); go_simp; (try with_reducible rfl))
          (try simp only [Act.put, List.getElem_toArray, List.getElem_cons_zero, List.getElem_cons_succ, List.setIfInBounds_toArray, List.set_cons_zero, List.set_cons_succ])
          refine wpAnyH_take (i := 22) (oi := ({ dst := some 89, op := .load 2 (.tmp 88), type := 2, pos := "ref.go:105", after := #[⟨21, .data⟩, ⟨20, .guard⟩], guard := some (20, true) } : Go.Oper)) (v := ?v100) rfl (by kernel_rfl) (by kernel_rfl) (by kernel_rfl) (fun _ _ _ h => h) (Or.inl ⟨by rfl, ?hy100⟩) (by assumption) ?rest100
          case hy100 => (intro w hSw; (try dsimp only at hSw); go_simp; (try with_reducible rfl))
          (try simp only [Act.put, List.getElem_toArray, List.getElem_cons_zero, List.getElem_cons_succ, List.setIfInBounds_toArray, List.set_cons_zero, List.set_cons_succ])
          refine wpAnyH_take (i := 23) (oi := ({ dst := some 90, op := .fieldAddr 24 (.tmp 2) 2, type := 0, pos := "ref.go:105", after := #[⟨20, .guard⟩], guard := some (20, true) } : Go.Oper)) (v := ?v101) rfl (by kernel_rfl) (by kernel_rfl) (by kernel_rfl) (fun _ _ _ h => h) (Or.inl ⟨by rfl, ?hy101⟩) (by assumption) ?rest101
          case hy101 => (intro w hSw; (try dsimp only at hSw); go_simp; (try with_reducible rfl))
          (try simp only [Act.put, List.getElem_toArray, List.getElem_cons_zero, List.getElem_cons_succ, List.setIfInBounds_toArray, List.set_cons_zero, List.set_cons_succ])
          refine wpAnyH_take (i := 24) (oi := ({ dst := some 91, op := .load 2 (.tmp 90), type := 2, pos := "ref.go:105", after := #[⟨23, .data⟩, ⟨20, .guard⟩], guard := some (20, true) } : Go.Oper)) (v := ?v102) rfl (by kernel_rfl) (by kernel_rfl) (by kernel_rfl) (fun _ _ _ h => h) (Or.inl ⟨by rfl, ?hy102⟩) (by assumption) ?rest102
          case hy102 => (intro w hSw; (try dsimp only at hSw); go_simp; (try with_reducible rfl))
          (try simp only [Act.put, List.getElem_toArray, List.getElem_cons_zero, List.getElem_cons_succ, List.setIfInBounds_toArray, List.set_cons_zero, List.set_cons_succ])
          refine wpAnyH_take (i := 25) (oi := ({ dst := some 92, op := .binOp .geq 2 (.tmp 89) (.tmp 91) 2, type := 4, pos := "ref.go:105", after := #[⟨22, .data⟩, ⟨24, .data⟩, ⟨20, .guard⟩], guard := some (20, true) } : Go.Oper)) (v := ?v103) rfl (by kernel_rfl) (by kernel_rfl) (by kernel_rfl) (fun _ _ _ h => h) (Or.inl ⟨by rfl, ?hy103⟩) (by assumption) ?rest103
          case hy103 => (intro w hSw; (try dsimp only at hSw); go_simp; (try with_reducible rfl))
          (try simp only [Act.put, List.getElem_toArray, List.getElem_cons_zero, List.getElem_cons_succ, List.setIfInBounds_toArray, List.set_cons_zero, List.set_cons_succ])
          refine wpAnyH_take (i := 26) (oi := ({ dst := some 93, op := .pick (.tmp 87) (.tmp 92) (.const (.bool false)), type := 4, pos := "ref.go:105", after := #[⟨20, .data⟩, ⟨25, .data⟩], guard := none } : Go.Oper)) (v := ?v104) rfl (by kernel_rfl) (by kernel_rfl) (by kernel_rfl) (fun _ _ _ h => h) (Or.inl ⟨by rfl, ?hy104⟩) (by assumption) ?rest104
          case hy104 => (intro w hSw; (try dsimp only at hSw); go_simp; (try with_reducible rfl))
          (try simp only [Act.put, List.getElem_toArray, List.getElem_cons_zero, List.getElem_cons_succ, List.setIfInBounds_toArray, List.set_cons_zero, List.set_cons_succ])
          refine wpAnyH_take (i := 27) (oi := ({ dst := some 94, op := .move (.tmp 93), type := 4, pos := "ref.go:105", after := #[⟨26, .data⟩, ⟨20, .chain⟩], guard := none } : Go.Oper)) (v := ?v105) rfl (by kernel_rfl) (by kernel_rfl) (by kernel_rfl) (fun _ _ _ h => h) (Or.inl ⟨by rfl, ?hy105⟩) (by assumption) ?rest105
          case hy105 => (intro w hSw; (try dsimp only at hSw); go_simp; (try with_reducible rfl))
          (try simp only [Act.put, List.getElem_toArray, List.getElem_cons_zero, List.getElem_cons_succ, List.setIfInBounds_toArray, List.set_cons_zero, List.set_cons_succ])
          refine wpAnyH_take (i := 28) (oi := ({ dst := some 95, op := .fieldAddr 29 (.tmp 3) 5, type := 0, pos := "ref.go:105", after := #[⟨27, .guard⟩], guard := some (27, true) } : Go.Oper)) (v := undef) rfl (by kernel_rfl) (by kernel_rfl) (by kernel_rfl) (fun _ _ _ h => h) (Or.inr ⟨by rfl, rfl⟩) (by assumption) ?_
          (try simp only [Act.put, List.getElem_toArray, List.getElem_cons_zero, List.getElem_cons_succ, List.setIfInBounds_toArray, List.set_cons_zero, List.set_cons_succ])
          refine wpAnyH_take (i := 29) (oi := ({ dst := some 96, op := .load 2 (.tmp 95), type := 2, pos := "ref.go:105", after := #[⟨28, .data⟩, ⟨27, .guard⟩], guard := some (27, true) } : Go.Oper)) (v := undef) rfl (by kernel_rfl) (by kernel_rfl) (by kernel_rfl) (fun _ _ _ h => h) (Or.inr ⟨by rfl, rfl⟩) (by assumption) ?_
          (try simp only [Act.put, List.getElem_toArray, List.getElem_cons_zero, List.getElem_cons_succ, List.setIfInBounds_toArray, List.set_cons_zero, List.set_cons_succ])
          refine wpAnyH_take (i := 30) (oi := ({ dst := some 97, op := .fieldAddr 24 (.tmp 2) 3, type := 0, pos := "ref.go:105", after := #[⟨27, .guard⟩], guard := some (27, true) } : Go.Oper)) (v := undef) rfl (by kernel_rfl) (by kernel_rfl) (by kernel_rfl) (fun _ _ _ h => h) (Or.inr ⟨by rfl, rfl⟩) (by assumption) ?_
          (try simp only [Act.put, List.getElem_toArray, List.getElem_cons_zero, List.getElem_cons_succ, List.setIfInBounds_toArray, List.set_cons_zero, List.set_cons_succ])
          refine wpAnyH_take (i := 31) (oi := ({ dst := some 98, op := .load 2 (.tmp 97), type := 2, pos := "ref.go:105", after := #[⟨30, .data⟩, ⟨27, .guard⟩], guard := some (27, true) } : Go.Oper)) (v := undef) rfl (by kernel_rfl) (by kernel_rfl) (by kernel_rfl) (fun _ _ _ h => h) (Or.inr ⟨by rfl, rfl⟩) (by assumption) ?_
          (try simp only [Act.put, List.getElem_toArray, List.getElem_cons_zero, List.getElem_cons_succ, List.setIfInBounds_toArray, List.set_cons_zero, List.set_cons_succ])
          refine wpAnyH_take (i := 32) (oi := ({ dst := some 99, op := .binOp .geq 2 (.tmp 96) (.tmp 98) 2, type := 4, pos := "ref.go:105", after := #[⟨29, .data⟩, ⟨31, .data⟩, ⟨27, .guard⟩], guard := some (27, true) } : Go.Oper)) (v := undef) rfl (by kernel_rfl) (by kernel_rfl) (by kernel_rfl) (fun _ _ _ h => h) (Or.inr ⟨by rfl, rfl⟩) (by assumption) ?_
          (try simp only [Act.put, List.getElem_toArray, List.getElem_cons_zero, List.getElem_cons_succ, List.setIfInBounds_toArray, List.set_cons_zero, List.set_cons_succ])
          refine wpAnyH_take (i := 33) (oi := ({ dst := some 100, op := .pick (.tmp 94) (.tmp 99) (.const (.bool false)), type := 4, pos := "ref.go:105", after := #[⟨27, .data⟩, ⟨32, .data⟩], guard := none } : Go.Oper)) (v := ?v106) rfl (by kernel_rfl) (by kernel_rfl) (by kernel_rfl) (fun _ _ _ h => h) (Or.inl ⟨by rfl, ?hy106⟩) (by assumption) ?rest106
          case hy106 => (intro w hSw; (try dsimp only at hSw); go_simp; (try with_reducible rfl))
          (try simp only [Act.put, List.getElem_toArray, List.getElem_cons_zero, List.getElem_cons_succ, List.setIfInBounds_toArray, List.set_cons_zero, List.set_cons_succ])
          refine wpAnyH_take (i := 34) (oi := ({ dst := some 101, op := .move (.tmp 100), type := 4, pos := "ref.go:105", after := #[⟨33, .data⟩, ⟨27, .chain⟩], guard := none } : Go.Oper)) (v := ?v107) rfl (by kernel_rfl) (by kernel_rfl) (by kernel_rfl) (fun _ _ _ h => h) (Or.inl ⟨by rfl, ?hy107⟩) (by assumption) ?rest107
          case hy107 => (intro w hSw; (try dsimp only at hSw); go_simp; (try with_reducible rfl))
          (try simp only [Act.put, List.getElem_toArray, List.getElem_cons_zero, List.getElem_cons_succ, List.setIfInBounds_toArray, List.set_cons_zero, List.set_cons_succ])
          refine wpAnyH_take (i := 35) (oi := ({ dst := some 102, op := .load 24 (.tmp 11), type := 24, pos := "ref.go:105", after := #[⟨34, .guard⟩], guard := some (34, true) } : Go.Oper)) (v := undef) rfl (by kernel_rfl) (by kernel_rfl) (by kernel_rfl) (fun _ _ _ h => h) (Or.inr ⟨by rfl, rfl⟩) (by assumption) ?_
          (try simp only [Act.put, List.getElem_toArray, List.getElem_cons_zero, List.getElem_cons_succ, List.setIfInBounds_toArray, List.set_cons_zero, List.set_cons_succ])
          refine wpAnyH_take (i := 36) (oi := ({ dst := some 103, op := .call { callee := .value (.func 8), args := #[.tmp 102], argTypes := #[24] }, type := 4, pos := "ref.go:105", after := #[⟨35, .data⟩, ⟨34, .chain⟩, ⟨34, .guard⟩], guard := some (34, true) } : Go.Oper)) (v := undef) rfl (by kernel_rfl) (by kernel_rfl) (by kernel_rfl) (fun _ _ _ h => h) (Or.inr ⟨by rfl, rfl⟩) (by assumption) ?_
          (try simp only [Act.put, List.getElem_toArray, List.getElem_cons_zero, List.getElem_cons_succ, List.setIfInBounds_toArray, List.set_cons_zero, List.set_cons_succ])
          refine wpAnyH_take (i := 37) (oi := ({ dst := some 104, op := .pick (.tmp 101) (.tmp 103) (.const (.bool false)), type := 4, pos := "ref.go:105", after := #[⟨34, .data⟩, ⟨36, .data⟩, ⟨38, .gcOnly .lateStores⟩], guard := none } : Go.Oper)) (v := ?v108) rfl (by kernel_rfl) (by kernel_rfl) (by kernel_rfl) (fun _ _ _ h => h) (Or.inl ⟨by rfl, ?hy108⟩) (by assumption) ?rest108
          case hy108 => (intro w hSw; (try dsimp only at hSw); go_simp; (try with_reducible rfl))
          (try simp only [Act.put, List.getElem_toArray, List.getElem_cons_zero, List.getElem_cons_succ, List.setIfInBounds_toArray, List.set_cons_zero, List.set_cons_succ])
          refine wpAnyH_ready (rs := [38]) (by kernel_rfl) (by simp) ?_
          refine AllReadyH.cons (o := ({ dst := none, op := .store 24 (.tmp 4) (.tmp 67), type := 0, pos := "ref.go:105", after := #[⟨0, .data⟩, ⟨36, .chain⟩, ⟨0, .phase⟩, ⟨1, .textOnly .lateStores⟩, ⟨2, .textOnly .lateStores⟩, ⟨3, .textOnly .lateStores⟩, ⟨4, .textOnly .lateStoresUnsure⟩, ⟨5, .textOnly .lateStores⟩, ⟨6, .textOnly .lateStores⟩, ⟨7, .textOnly .lateStores⟩, ⟨8, .textOnly .lateStores⟩, ⟨9, .textOnly .lateStores⟩, ⟨10, .textOnly .lateStores⟩, ⟨11, .textOnly .lateStores⟩, ⟨12, .textOnly .lateStores⟩, ⟨13, .textOnly .lateStores⟩, ⟨14, .textOnly .lateStores⟩, ⟨15, .textOnly .lateStores⟩, ⟨16, .textOnly .lateStores⟩, ⟨17, .textOnly .lateStores⟩, ⟨18, .textOnly .lateStores⟩, ⟨19, .textOnly .lateStores⟩, ⟨20, .textOnly .lateStores⟩, ⟨21, .textOnly .lateStores⟩, ⟨22, .textOnly .lateStores⟩, ⟨23, .textOnly .lateStores⟩, ⟨24, .textOnly .lateStores⟩, ⟨25, .textOnly .lateStores⟩, ⟨26, .textOnly .lateStores⟩, ⟨27, .textOnly .lateStores⟩, ⟨28, .textOnly .lateStores⟩, ⟨29, .textOnly .lateStores⟩, ⟨30, .textOnly .lateStores⟩, ⟨31, .textOnly .lateStores⟩, ⟨32, .textOnly .lateStores⟩, ⟨33, .textOnly .lateStores⟩, ⟨34, .textOnly .lateStores⟩, ⟨35, .textOnly .lateStores⟩, ⟨36, .textOnly .lateStoresUnsure⟩, ⟨37, .textOnly .lateStores⟩], guard := none } : Go.Oper)) rfl (fun K hK => ?_) AllReadyH.nil
          (first | have X38 : Ext wc w8 := (by with_reducible (repeat (first | exact Ext.rfl_ _ | assumption | refine Ext.drew ?_ | refine Ext.drewN ?_ _ | refine Ext.alloc ?_ _ | refine Ext.trans ?_ (by assumption)))) | have X38 : Ext wc wc := Ext.rfl_ wc); have HC28 := Lib.hid (((Ext.below X38).block _ (Array.getElem?_eq_some_iff.1 HC2.out).1).trans HC2.out); have HO8 := Lib.hid (HO6.out.ext X38); have X8 := Lib.hid (XF.out.trans X38); obtain ⟨r0, r1, r2, r3, r4, s0, s1, s2, s3, s4⟩ := box5 HC28.out (Ext.rfl_ _); go_simp
          refine hK.out _ _ (by (try dsimp only); (refine HS16.out _ ?_; first | exact ((X38.grownBy _).trans_ (grown5 _ _ _ _ _ _ _)).drew_ | exact (X38.grownBy _).trans_ (grown5 _ _ _ _ _ _ _) | (refine Ext.grownBy ?_ _; (with_reducible (repeat (first | exact Ext.rfl_ _ | assumption | refine Ext.drew ?_ | refine Ext.alloc ?_ _ | refine Ext.trans ?_ (by assumption))))))) (fun hHeld => ?_)
          clear hK K
          (try simp only [Act.put, List.getElem_toArray, List.getElem_cons_zero, List.getElem_cons_succ, List.setIfInBounds_toArray, List.set_cons_zero, List.set_cons_succ])
          refine wpAnyH_take (i := 39) (oi := ({ dst := some 5, op := .assign (.tmp 104), type := 4, pos := "ref.go:105", after := #[⟨37, .data⟩, ⟨38, .chain⟩, ⟨0, .phase⟩, ⟨1, .phase⟩, ⟨2, .phase⟩, ⟨3, .phase⟩, ⟨4, .phase⟩, ⟨5, .phase⟩, ⟨6, .phase⟩, ⟨7, .phase⟩, ⟨8, .phase⟩, ⟨9, .phase⟩, ⟨10, .phase⟩, ⟨11, .phase⟩, ⟨12, .phase⟩, ⟨13, .phase⟩, ⟨14, .phase⟩, ⟨15, .phase⟩, ⟨16, .phase⟩, ⟨17, .phase⟩, ⟨18, .phase⟩, ⟨19, .phase⟩, ⟨20, .phase⟩, ⟨21, .phase⟩, ⟨22, .phase⟩, ⟨23, .phase⟩, ⟨24, .phase⟩, ⟨25, .phase⟩, ⟨26, .phase⟩, ⟨27, .phase⟩, ⟨28, .phase⟩, ⟨29, .phase⟩, ⟨30, .phase⟩, ⟨31, .phase⟩, ⟨32, .phase⟩, ⟨33, .phase⟩, ⟨34, .phase⟩, ⟨35, .phase⟩, ⟨36, .phase⟩, ⟨37, .phase⟩, ⟨38, .phase⟩], guard := none } : Go.Oper)) (v := ?v109) rfl (by kernel_rfl) (by kernel_rfl) (by kernel_rfl) (fun _ _ _ h => h) (Or.inl ⟨by rfl, ?hy109⟩) (by assumption) ?rest109
          case hy109 => (intro w hSw; (try dsimp only at hSw); go_simp; (try with_reducible rfl))
          (try simp only [Act.put, List.getElem_toArray, List.getElem_cons_zero, List.getElem_cons_succ, List.setIfInBounds_toArray, List.set_cons_zero, List.set_cons_succ])
          refine wpAnyH_done (by kernel_rfl) ?_ _
          all_goals
            obtain ⟨z0, z1, z2, z3, z4, _⟩ := box5 (set5 HC28.out (.int .i64 y.next) (.int .i64 y.log) (.int .i64 y.index) (.int .i64 y.seq) (.slice A6 n6 c6)) (Ext.rfl_ _)
            have HO9 := (HO8.out.other HC28.out (by decide) (by decide) noU8 (grown5 _ _ (.int .i64 y.next) (.int .i64 y.log) (.int .i64 y.index) (.int .i64 y.seq) (.slice A6 n6 c6)))
            go_wp2
            refine bodyPost_ret (v := .tuple #[.agg #[.int .i64 y.next, .int .i64 y.log, .int .i64 y.index, .int .i64 y.seq, .slice A6 n6 c6], .bool false]) (by simp [results, Try.f11, go_sem, z0, z1, z2, z3, z4]) rfl ?_
            exact ⟨_, by rw [HR.out], (ownT_ver2 y (HO9.ext (Ext.drew (Ext.rfl_ _))) (by rw [srtT_len, List.length_append]; unfold B47; omega)).out, (extSet5 X8.out HQ2.out _ _ _ _ _).drew⟩
        have d3 : decide (x.index ≤ y.index) = true := by simp [k3]
        by_cases k4 : x.seq ≤ y.seq
        rotate_left
        · have HR : Hid (rdoB x y = false) := Lib.hid (rdoB_no fun h => k4 (by have := h.2.2.2.2.1; omega))
          have d4 : decide (x.seq ≤ y.seq) = false := by simp [k4]
          clear k4
          go_wp2
          refine wp_region_held_drew (S := (fun W => (W.cell? ⟨w.heap.size, 0, none⟩ = some (.int .i64 x.next) ∧ W.cell? ⟨w.heap.size, 1, none⟩ = some (.int .i64 x.log) ∧ W.cell? ⟨w.heap.size, 2, none⟩ = some (.int .i64 x.index) ∧ W.cell? ⟨w.heap.size, 3, none⟩ = some (.int .i64 x.seq) ∧ W.cell? ⟨w.heap.size, 4, none⟩ = some (.slice A x.ts.length c)) ∧ (W.cell? ⟨q1, 0, none⟩ = some (.slice D y.drop.length dc) ∧ W.cell? ⟨q1, 1, none⟩ = some (.slice B y.add.length d) ∧ W.cell? ⟨q1, 2, none⟩ = some (.int .i64 y.next) ∧ W.cell? ⟨q1, 3, none⟩ = some (.int .i64 y.log) ∧ W.cell? ⟨q1, 4, none⟩ = some (.int .i64 y.index) ∧ W.cell? ⟨q1, 5, none⟩ = some (.int .i64 y.seq)) ∧ (W.cell? ⟨o, 0, none⟩ = some (.int .i64 y.next) ∧ W.cell? ⟨o, 1, none⟩ = some (.int .i64 y.log) ∧ W.cell? ⟨o, 2, none⟩ = some (.int .i64 y.index) ∧ W.cell? ⟨o, 3, none⟩ = some (.int .i64 y.seq) ∧ W.cell? ⟨o, 4, none⟩ = some (.slice A6 n6 c6)))) (by kernel_rfl) (by (try dsimp only); (refine HS16.out _ ?_; first | exact ((X38.grownBy _).trans_ (grown5 _ _ _ _ _ _ _)).drew_ | exact (X38.grownBy _).trans_ (grown5 _ _ _ _ _ _ _) | (refine Ext.grownBy ?_ _; (with_reducible (repeat (first | exact Ext.rfl_ _ | assumption | refine Ext.drew ?_ | refine Ext.alloc ?_ _ | refine Ext.trans ?_ (by assumption))))))) (fun hHeld => ?_)
          refine wpAnyH_take (i := 0) (oi := ({ dst := some 67, op := .load 24 (.tmp 11), type := 24, pos := "ref.go:105", after := #[], guard := none } : Go.Oper)) (v := ?v110) rfl (by kernel_rfl) (by kernel_rfl) (by kernel_rfl) (fun _ _ _ h => h) (Or.inl ⟨by rfl, ?hy110⟩) (by assumption) ?rest110
          case hy110 => (intro w hSw; (try dsimp only at hSw); go_simp; (try with_reducible rfl))
          (try simp only [Act.put, List.getElem_toArray, List.getElem_cons_zero, List.getElem_cons_succ, List.setIfInBounds_toArray, List.set_cons_zero, List.set_cons_succ])
          refine wpAnyH_take (i := 1) (oi := ({ dst := some 68, op := .move (.tmp 7), type := 3, pos := "ref.go:105", after := #[], guard := none } : Go.Oper)) (v := ?v111) rfl (by kernel_rfl) (by kernel_rfl) (by kernel_rfl) (fun _ _ _ h => h) (Or.inl ⟨by rfl, ?hy111⟩) (by assumption) ?rest111
          case hy111 => (intro w hSw; (try dsimp only at hSw); go_simp; (try with_reducible rfl))
          (try simp only [Act.put, List.getElem_toArray, List.getElem_cons_zero, List.getElem_cons_succ, List.setIfInBounds_toArray, List.set_cons_zero, List.set_cons_succ])
          refine wpAnyH_take (i := 2) (oi := ({ dst := some 69, op := .fieldAddr 29 (.tmp 3) 0, type := 0, pos := "ref.go:105", after := #[], guard := none } : Go.Oper)) (v := ?v112) rfl (by kernel_rfl) (by kernel_rfl) (by kernel_rfl) (fun _ _ _ h => h) (Or.inl ⟨by rfl, ?hy112⟩) (by assumption) ?rest112
          case hy112 => (intro w hSw; (try dsimp only at hSw); go_simp; (try with_reducible rfl))
          (try simp only [Act.put, List.getElem_toArray, List.getElem_cons_zero, List.getElem_cons_succ, List.setIfInBounds_toArray, List.set_cons_zero, List.set_cons_succ])
          refine wpAnyH_take (i := 3) (oi := ({ dst := some 70, op := .load 27 (.tmp 69), type := 27, pos := "ref.go:105", after := #[⟨2, .data⟩], guard := none } : Go.Oper)) (v := ?v113) rfl (by kernel_rfl) (by kernel_rfl) (by kernel_rfl) (fun _ _ _ h => h) (Or.inl ⟨by rfl, ?hy113⟩) (by assumption) ?rest113
          case hy113 => (intro w hSw; (try dsimp only at hSw); go_simp; (try with_reducible rfl))
          (try simp only [Act.put, List.getElem_toArray, List.getElem_cons_zero, List.getElem_cons_succ, List.setIfInBounds_toArray, List.set_cons_zero, List.set_cons_succ])
          refine wpAnyH_take (i := 4) (oi := ({ dst := some 71, op := .call { callee := .builtin .len, args := #[.tmp 70], argTypes := #[27] }, type := 3, pos := "ref.go:105", after := #[⟨3, .data⟩], guard := none } : Go.Oper)) (v := ?v114) rfl (by kernel_rfl) (by kernel_rfl) (by kernel_rfl) (fun _ _ _ h => h) (Or.inl ⟨by rfl, ?hy114⟩) (by assumption) ?rest114
          case hy114 => (intro w hSw; (try dsimp only at hSw); go_simp; (try with_reducible rfl))
          (try simp only [Act.put, List.getElem_toArray, List.getElem_cons_zero, List.getElem_cons_succ, List.setIfInBounds_toArray, List.set_cons_zero, List.set_cons_succ])
          refine wpAnyH_take (i := 5) (oi := ({ dst := some 72, op := .binOp .eql 3 (.tmp 68) (.tmp 71) 3, type := 4, pos := "ref.go:105", after := #[⟨1, .data⟩, ⟨4, .data⟩], guard := none } : Go.Oper)) (v := ?v115) rfl (by kernel_rfl) (by kernel_rfl) (by kernel_rfl) (fun _ _ _ h => h) (Or.inl ⟨by rfl, ?hy115⟩) (by assumption) ?rest115
          case hy115 => (intro w hSw; (try dsimp only at hSw); go_simp; (try with_reducible rfl))
          (try simp only [Act.put, List.getElem_toArray, List.getElem_cons_zero, List.getElem_cons_succ, List.setIfInBounds_toArray, List.set_cons_zero, List.set_cons_succ])
          refine wpAnyH_take (i := 6) (oi := ({ dst := some 73, op := .move (.tmp 72), type := 4, pos := "ref.go:105", after := #[⟨5, .data⟩], guard := none } : Go.Oper)) (v := ?v116) rfl (by kernel_rfl) (by kernel_rfl) (by kernel_rfl) (fun _ _ _ h => h) (Or.inl ⟨by rfl, ?hy116⟩) (by assumption) ?rest116
          case hy116 => (intro w hSw; (try dsimp only at hSw); go_simp; (try with_reducible rfl))
          (try simp only [Act.put, List.getElem_toArray, List.getElem_cons_zero, List.getElem_cons_succ, List.setIfInBounds_toArray, List.set_cons_zero, List.set_cons_succ])
          refine wpAnyH_take (i := 7) (oi := ({ dst := some 74, op := .fieldAddr 29 (.tmp 3) 2, type := 0, pos := "ref.go:105", after := #[⟨6, .guard⟩], guard := some (6, true) } : Go.Oper)) (v := ?v117) rfl (by kernel_rfl) (by kernel_rfl) (by kernel_rfl) (fun _ _ _ h => h) (Or.inl ⟨by rfl, ?hy117⟩) (by assumption) ?rest117
          case hy117 => (intro w hSw; (try dsimp only at hSw); go_simp; (try with_reducible rfl))
          (try simp only [Act.put, List.getElem_toArray, List.getElem_cons_zero, List.getElem_cons_succ, List.setIfInBounds_toArray, List.set_cons_zero, List.set_cons_succ])
          refine wpAnyH_take (i := 8) (oi := ({ dst := some 75, op := .load 2 (.tmp 74), type := 2, pos := "ref.go:105", after := #[⟨7, .data⟩, ⟨6, .guard⟩], guard := some (6, true) } : Go.Oper)) (v := ?v118) rfl (by kernel_rfl) (by kernel_rfl) (by kernel_rfl) (fun _ _ _ h => h) (Or.inl ⟨by rfl, ?hy118⟩) (by assumption) ?rest118
          case hy118 => (intro w hSw; (try dsimp only at hSw); go_simp; (try with_reducible rfl))
          (try simp only [Act.put, List.getElem_toArray, List.getElem_cons_zero, List.getElem_cons_succ, List.setIfInBounds_toArray, List.set_cons_zero, List.set_cons_succ])
          refine wpAnyH_take (i := 9) (oi := ({ dst := some 76, op := .fieldAddr 24 (.tmp 2) 0, type := 0, pos := "ref.go:105", after := #[⟨6, .guard⟩], guard := some (6, true) } : Go.Oper)) (v := ?v119) rfl (by kernel_rfl) (by kernel_rfl) (by kernel_rfl) (fun _ _ _ h => h) (Or.inl ⟨by rfl, ?hy119⟩) (by assumption) ?rest119
          case hy119 => (intro w hSw; (try dsimp only at hSw); go_simp; (try with_reducible rfl))
          (try simp only [Act.put, List.getElem_toArray, List.getElem_cons_zero, List.getElem_cons_succ, List.setIfInBounds_toArray, List.set_cons_zero, List.set_cons_succ])
          refine wpAnyH_take (i := 10) (oi := ({ dst := some 77, op := .load 2 (.tmp 76), type := 2, pos := "ref.go:105", after := #[⟨9, .data⟩, ⟨6, .guard⟩], guard := some (6, true) } : Go.Oper)) (v := ?v120) rfl (by kernel_rfl) (by kernel_rfl) (by kernel_rfl) (fun _ _ _ h => h) (Or.inl ⟨by rfl, ?hy120⟩) (by assumption) ?rest120
          case hy120 => (intro w hSw; (try dsimp only at hSw); go_simp; (try with_reducible rfl))
          (try simp only [Act.put, List.getElem_toArray, List.getElem_cons_zero, List.getElem_cons_succ, List.setIfInBounds_toArray, List.set_cons_zero, List.set_cons_succ])
          refine wpAnyH_take (i := 11) (oi := ({ dst := some 78, op := .binOp .geq 2 (.tmp 75) (.tmp 77) 2, type := 4, pos := "ref.go:105", after := #[⟨8, .data⟩, ⟨10, .data⟩, ⟨6, .guard⟩], guard := some (6, true) } : Go.Oper)) (v := ?v121) rfl (by kernel_rfl) (by kernel_rfl) (by kernel_rfl) (fun _ _ _ h => h) (Or.inl ⟨by rfl, ?hy121⟩) (by assumption) ?rest121
          case hy121 => (intro w hSw; (try dsimp only at hSw); go_simp; (try with_reducible rfl))
          (try simp only [Act.put, List.getElem_toArray, List.getElem_cons_zero, List.getElem_cons_succ, List.setIfInBounds_toArray, List.set_cons_zero, List.set_cons_succ])
          refine wpAnyH_take (i := 12) (oi := ({ dst := some 79, op := .pick (.tmp 73) (.tmp 78) (.const (.bool false)), type := 4, pos := "ref.go:105", after := #[⟨6, .data⟩, ⟨11, .data⟩], guard := none } : Go.Oper)) (v := ?v122) rfl (by kernel_rfl) (by kernel_rfl) (by kernel_rfl) (fun _ _ _ h => h) (Or.inl ⟨by rfl, ?hy122⟩) (by assumption) ?rest122
          case hy122 => (intro w hSw; (try dsimp only at hSw); go_simp; (try with_reducible rfl))
          (try simp only [Act.put, List.getElem_toArray, List.getElem_cons_zero, List.getElem_cons_succ, List.setIfInBounds_toArray, List.set_cons_zero, List.set_cons_succ])
          refine wpAnyH_take (i := 13) (oi := ({ dst := some 80, op := .move (.tmp 79), type := 4, pos := "ref.go:105", after := #[⟨12, .data⟩, ⟨6, .chain⟩], guard := none } : Go.Oper)) (v := ?v123) rfl (by kernel_rfl) (by kernel_rfl) (by kernel_rfl) (fun _ _ _ h => h) (Or.inl ⟨by rfl, ?hy123⟩) (by assumption) ?rest123
          case hy123 => (intro w hSw; (try dsimp only at hSw); go_simp; (try with_reducible rfl))
          (try simp only [Act.put, List.getElem_toArray, List.getElem_cons_zero, List.getElem_cons_succ, List.setIfInBounds_toArray, List.set_cons_zero, List.set_cons_succ])
          refine wpAnyH_take (i := 14) (oi := ({ dst := some 81, op := .fieldAddr 29 (.tmp 3) 3, type := 0, pos := "ref.go:105", after := #[⟨13, .guard⟩], guard := some (13, true) } : Go.Oper)) (v := ?v124) rfl (by kernel_rfl) (by kernel_rfl) (by kernel_rfl) (fun _ _ _ h => h) (Or.inl ⟨by rfl, ?hy124⟩) (by assumption) ?rest124
          case hy124 => (intro w hSw; (try dsimp only at hSw); go_simp; (try with_reducible rfl))
          (try simp only [Act.put, List.getElem_toArray, List.getElem_cons_zero, List.getElem_cons_succ, List.setIfInBounds_toArray, List.set_cons_zero, List.set_cons_succ])
          refine wpAnyH_take (i := 15) (oi := ({ dst := some 82, op := .load 2 (.tmp 81), type := 2, pos := "ref.go:105", after := #[⟨14, .data⟩, ⟨13, .guard⟩], guard := some (13, true) } : Go.Oper)) (v := ?v125) rfl (by kernel_rfl) (by kernel_rfl) (by kernel_rfl) (fun _ _ _ h => h) (Or.inl ⟨by rfl, ?hy125⟩) (by assumption) ?rest125
          case hy125 => (intro w hSw; (try dsimp only at hSw); go_simp; (try with_reducible rfl))
          (try simp only [Act.put, List.getElem_toArray, List.getElem_cons_zero, List.getElem_cons_succ, List.setIfInBounds_toArray, List.set_cons_zero, List.set_cons_succ])
          refine wpAnyH_take (i := 16) (oi := ({ dst := some 83, op := .fieldAddr 24 (.tmp 2) 1, type := 0, pos := "ref.go:105", after := #[⟨13, .guard⟩], guard := some (13, true) } : Go.Oper)) (v := ?v126) rfl (by kernel_rfl) (by kernel_rfl) (by kernel_rfl) (fun _ _ _ h => h) (Or.inl ⟨by rfl, ?hy126⟩) (by assumption) ?rest126
          case hy126 => (intro w hSw; (try dsimp only at hSw); go_simp; (try with_reducible rfl))
          (try simp only [Act.put, List.getElem_toArray, List.getElem_cons_zero, List.getElem_cons_succ, List.setIfInBounds_toArray, List.set_cons_zero, List.set_cons_succ])
          refine wpAnyH_take (i := 17) (oi := ({ dst := some 84, op := .load 2 (.tmp 83), type := 2, pos := "ref.go:105", after := #[⟨16, .data⟩, ⟨13, .guard⟩], guard := some (13, true) } : Go.Oper)) (v := ?v127) rfl (by kernel_rfl) (by kernel_rfl) (by kernel_rfl) (fun _ _ _ h => h) (Or.inl ⟨by rfl, ?hy127⟩) (by assumption) ?rest127
          case hy127 => (intro w hSw; (try dsimp only at hSw); go_simp; (try with_reducible rfl))
          (try simp only [Act.put, List.getElem_toArray, List.getElem_cons_zero, List.getElem_cons_succ, List.setIfInBounds_toArray, List.set_cons_zero, List.set_cons_succ])
          refine wpAnyH_take (i := 18) (oi := ({ dst := some 85, op := .binOp .geq 2 (.tmp 82) (.tmp 84) 2, type := 4, pos := "ref.go:105", after := #[⟨15, .data⟩, ⟨17, .data⟩, ⟨13, .guard⟩], guard := some (13, true) } : Go.Oper)) (v := ?v128) rfl (by kernel_rfl) (by kernel_rfl) (by kernel_rfl) (fun _ _ _ h => h) (Or.inl ⟨by rfl, ?hy128⟩) (by assumption) ?rest128
          case hy128 => (intro w hSw; (try dsimp only at hSw); go_simp; (try with_reducible rfl))
          (try simp only [Act.put, List.getElem_toArray, List.getElem_cons_zero, List.getElem_cons_succ, List.setIfInBounds_toArray, List.set_cons_zero, List.set_cons_succ])
          refine wpAnyH_take (i := 19) (oi := ({ dst := some 86, op := .pick (.tmp 80) (.tmp 85) (.const (.bool false)), type := 4, pos := "ref.go:105", after := #[⟨13, .data⟩, ⟨18, .data⟩], guard := none } : Go.Oper)) (v := ?v129) rfl (by kernel_rfl) (by kernel_rfl) (by kernel_rfl) (fun _ _ _ h => h) (Or.inl ⟨by rfl, ?hy129⟩) (by assumption) ?rest129
          case hy129 => (intro w hSw; (try dsimp only at hSw); go_simp; (try with_reducible rfl))
          (try simp only [Act.put, List.getElem_toArray, List.getElem_cons_zero, List.getElem_cons_succ, List.setIfInBounds_toArray, List.set_cons_zero, List.set_cons_succ])
          refine wpAnyH_take (i := 20) (oi := ({ dst := some 87, op := .move (.tmp 86), type := 4, pos := "ref.go:105", after := #[⟨19, .data⟩, ⟨13, .chain⟩], guard := none } : Go.Oper)) (v := ?v130) rfl (by kernel_rfl) (by kernel_rfl) (by kernel_rfl) (fun _ _ _ h => h) (Or.inl ⟨by rfl, ?hy130⟩) (by assumption) ?rest130
          case hy130 => (intro w hSw; (try dsimp only at hSw); go_simp; (try with_reducible rfl))
          (try simp only [Act.put, List.getElem_toArray, List.getElem_cons_zero, List.getElem_cons_succ, List.setIfInBounds_toArray, List.set_cons_zero, List.set_cons_succ])
          refine wpAnyH_take (i := 21) (oi := ({ dst := some 88, op := .fieldAddr 29 (.tmp 3) 4, type := 0, pos := "ref.go:105", after := #[⟨20, .guard⟩], guard := some (20, true) } : Go.Oper)) (v := ?v131) rfl (by kernel_rfl) (by kernel_rfl) (by kernel_rfl) (fun _ _ _ h => h) (Or.inl ⟨by rfl, ?hy131⟩) (by assumption) ?rest131
          case hy131 => (intro w hSw; (try dsimp only at hSw); go_simp; (try with_reducible rfl))
          (try simp only [Act.put, List.getElem_toArray, List.getElem_cons_zero, List.getElem_cons_succ, List.setIfInBounds_toArray, List.set_cons_zero, List.set_cons_succ])
          refine wpAnyH_take (i := 22) (oi := ({ dst := some 89, op := .load 2 (.tmp 88), type := 2, pos := "ref.go:105", after := #[⟨21, .data⟩, ⟨20, .guard⟩], guard := some (20, true) } : Go.Oper)) (v := ?v132) rfl (by kernel_rfl) (by kernel_rfl) (by kernel_rfl) (fun _ _ _ h => h) (Or.inl ⟨by rfl, ?hy132⟩) (by assumption) ?rest132
          case hy132 => (intro w hSw; (try dsimp only at hSw); go_simp; (try with_reducible rfl))
          (try simp only [Act.put, List.getElem_toArray, List.getElem_cons_zero, List.getElem_cons_succ, List.setIfInBounds_toArray, List.set_cons_zero, List.set_cons_succ])
          refine wpAnyH_take (i := 23) (oi := ({ dst := some 90, op := .fieldAddr 24 (.tmp 2) 2, type := 0, pos := "ref.go:105", after := #[⟨20, .guard⟩], guard := some (20, true) } : Go.Oper)) (v := ?v133) rfl (by kernel_rfl) (by kernel_rfl) (by kernel_rfl) (fun _ _ _ h => h) (Or.inl ⟨by rfl, ?hy133⟩) (by assumption) ?rest133
          case hy133 => (intro w hSw; (try dsimp only at hSw); go_simp; (try with_reducible rfl))
          (try simp only [Act.put, List.getElem_toArray, List.getElem_cons_zero, List.getElem_cons_succ, List.setIfInBounds_toArray, List.set_cons_zero, List.set_cons_succ])
          refine wpAnyH_take (i := 24) (oi := ({ dst := some 91, op := .load 2 (.tmp 90), type := 2, pos := "ref.go:105", after := #[⟨23, .data⟩, ⟨20, .guard⟩], guard := some (20, true) } : Go.Oper)) (v := ?v134) rfl (by kernel_rfl) (by kernel_rfl) (by kernel_rfl) (fun _ _ _ h => h) (Or.inl ⟨by rfl, ?hy134⟩) (by assumption) ?rest134
          case hy134 => (intro w hSw; (try dsimp only at hSw); go_simp; (try with_reducible rfl))
          (try simp only [Act.put, List.getElem_toArray, List.getElem_cons_zero, List.getElem_cons_succ, List.setIfInBounds_toArray, List.set_cons_zero, List.set_cons_succ])
          refine wpAnyH_take (i := 25) (oi := ({ dst := some 92, op := .binOp .geq 2 (.tmp 89) (.tmp 91) 2, type := 4, pos := "ref.go:105", after := #[⟨22, .data⟩, ⟨24, .data⟩, ⟨20, .guard⟩], guard := some (20, true) } : Go.Oper)) (v := ?v135) rfl (by kernel_rfl) (by kernel_rfl) (by kernel_rfl) (fun _ _ _ h => h) (Or.inl ⟨by rfl, ?hy135⟩) (by assumption) ?rest135
          case hy135 => (intro w hSw; (try dsimp only at hSw); go_simp; (try with_reducible rfl))
          (try simp only [Act.put, List.getElem_toArray, List.getElem_cons_zero, List.getElem_cons_succ, List.setIfInBounds_toArray, List.set_cons_zero, List.set_cons_succ])
          refine wpAnyH_take (i := 26) (oi := ({ dst := some 93, op := .pick (.tmp 87) (.tmp 92) (.const (.bool false)), type := 4, pos := "ref.go:105", after := #[⟨20, .data⟩, ⟨25, .data⟩], guard := none } : Go.Oper)) (v := ?v136) rfl (by kernel_rfl) (by kernel_rfl) (by kernel_rfl) (fun _ _ _ h => h) (Or.inl ⟨by rfl, ?hy136⟩) (by assumption) ?rest136
          case hy136 => (intro w hSw; (try dsimp only at hSw); go_simp; (try with_reducible rfl))
          (try simp only [Act.put, List.getElem_toArray, List.getElem_cons_zero, List.getElem_cons_succ, List.setIfInBounds_toArray, List.set_cons_zero, List.set_cons_succ])
          refine wpAnyH_take (i := 27) (oi := ({ dst := some 94, op := .move (.tmp 93), type := 4, pos := "ref.go:105", after := #[⟨26, .data⟩, ⟨20, .chain⟩], guard := none } : Go.Oper)) (v := ?v137) rfl (by kernel_rfl) (by kernel_rfl) (by kernel_rfl) (fun _ _ _ h => h) (Or.inl ⟨by rfl, ?hy137⟩) (by assumption) ?rest137
          case hy137 => (intro w hSw; (try dsimp only at hSw); go_simp; (try with_reducible rfl))
          (try simp only [Act.put, List.getElem_toArray, List.getElem_cons_zero, List.getElem_cons_succ, List.setIfInBounds_toArray, List.set_cons_zero, List.set_cons_succ])
          refine wpAnyH_take (i := 28) (oi := ({ dst := some 95, op := .fieldAddr 29 (.tmp 3) 5, type := 0, pos := "ref.go:105", after := #[⟨27, .guard⟩], guard := some (27, true) } : Go.Oper)) (v := ?v138) rfl (by kernel_rfl) (by kernel_rfl) (by kernel_rfl) (fun _ _ _ h => h) (Or.inl ⟨by rfl, ?hy138⟩) (by assumption) ?rest138
          case hy138 => (intro w hSw; (try dsimp only at hSw); go_simp; (try with_reducible rfl))
          (try simp only [Act.put, List.getElem_toArray, List.getElem_cons_zero, List.getElem_cons_succ, List.setIfInBounds_toArray, List.set_cons_zero, List.set_cons_succ])
          refine wpAnyH_take (i := 29) (oi := ({ dst := some 96, op := .load 2 (.tmp 95), type := 2, pos := "ref.go:105", after := #[⟨28, .data⟩, ⟨27, .guard⟩], guard := some (27, true) } : Go.Oper)) (v := ?v139) rfl (by kernel_rfl) (by kernel_rfl) (by kernel_rfl) (fun _ _ _ h => h) (Or.inl ⟨by rfl, ?hy139⟩) (by assumption) ?rest139
          case hy139 => (intro w hSw; (try dsimp only at hSw); go_simp; (try with_reducible rfl))
          (try simp only [Act.put, List.getElem_toArray, List.getElem_cons_zero, List.getElem_cons_succ, List.setIfInBounds_toArray, List.set_cons_zero, List.set_cons_succ])
          refine wpAnyH_take (i := 30) (oi := ({ dst := some 97, op := .fieldAddr 24 (.tmp 2) 3, type := 0, pos := "ref.go:105", after := #[⟨27, .guard⟩], guard := some (27, true) } : Go.Oper)) (v := ?v140) rfl (by kernel_rfl) (by kernel_rfl) (by kernel_rfl) (fun _ _ _ h => h) (Or.inl ⟨by rfl, ?hy140⟩) (by assumption) ?rest140
          case hy140 => (intro w hSw; (try dsimp only at hSw); go_simp; (try with_reducible rfl))
          (try simp only [Act.put, List.getElem_toArray, List.getElem_cons_zero, List.getElem_cons_succ, List.setIfInBounds_toArray, List.set_cons_zero, List.set_cons_succ])
          refine wpAnyH_take (i := 31) (oi := ({ dst := some 98, op := .load 2 (.tmp 97), type := 2, pos := "ref.go:105", after := #[⟨30, .data⟩, ⟨27, .guard⟩], guard := some (27, true) } : Go.Oper)) (v := ?v141) rfl (by kernel_rfl) (by kernel_rfl) (by kernel_rfl) (fun _ _ _ h => h) (Or.inl ⟨by rfl, ?hy141⟩) (by assumption) ?rest141
          case hy141 => (intro w hSw; (try dsimp only at hSw); go_simp; (try with_reducible rfl))
          (try simp only [Act.put, List.getElem_toArray, List.getElem_cons_zero, List.getElem_cons_succ, List.setIfInBounds_toArray, List.set_cons_zero, List.set_cons_succ])
          refine wpAnyH_take (i := 32) (oi := ({ dst := some 99, op := .binOp .geq 2 (.tmp 96) (.tmp 98) 2, type := 4, pos := "ref.go:105", after := #[⟨29, .data⟩, ⟨31, .data⟩, ⟨27, .guard⟩], guard := some (27, true) } : Go.Oper)) (v := ?v142) rfl (by kernel_rfl) (by kernel_rfl) (by kernel_rfl) (fun _ _ _ h => h) (Or.inl ⟨by rfl, ?hy142⟩) (by assumption) ?rest142
          case hy142 => (intro w hSw; (try dsimp only at hSw); go_simp; (try with_reducible rfl))
          (try simp only [Act.put, List.getElem_toArray, List.getElem_cons_zero, List.getElem_cons_succ, List.setIfInBounds_toArray, List.set_cons_zero, List.set_cons_succ])
          refine wpAnyH_take (i := 33) (oi := ({ dst := some 100, op := .pick (.tmp 94) (.tmp 99) (.const (.bool false)), type := 4, pos := "ref.go:105", after := #[⟨27, .data⟩, ⟨32, .data⟩], guard := none } : Go.Oper)) (v := ?v143) rfl (by kernel_rfl) (by kernel_rfl) (by kernel_rfl) (fun _ _ _ h => h) (Or.inl ⟨by rfl, ?hy143⟩) (by assumption) ?rest143
          case hy143 => (intro w hSw; (try dsimp only at hSw); go_simp; (try with_reducible rfl))
          (try simp only [Act.put, List.getElem_toArray, List.getElem_cons_zero, List.getElem_cons_succ, List.setIfInBounds_toArray, List.set_cons_zero, List.set_cons_succ])
          refine wpAnyH_take (i := 34) (oi := ({ dst := some 101, op := .move (.tmp 100), type := 4, pos := "ref.go:105", after := #[⟨33, .data⟩, ⟨27, .chain⟩], guard := none } : Go.Oper)) (v := ?v144) rfl (by kernel_rfl) (by kernel_rfl) (by kernel_rfl) (fun _ _ _ h => h) (Or.inl ⟨by rfl, ?hy144⟩) (by assumption) ?rest144
          case hy144 => (intro w hSw; (try dsimp only at hSw); go_simp; (try with_reducible rfl))
          (try simp only [Act.put, List.getElem_toArray, List.getElem_cons_zero, List.getElem_cons_succ, List.setIfInBounds_toArray, List.set_cons_zero, List.set_cons_succ])
          refine wpAnyH_take (i := 35) (oi := ({ dst := some 102, op := .load 24 (.tmp 11), type := 24, pos := "ref.go:105", after := #[⟨34, .guard⟩], guard := some (34, true) } : Go.Oper)) (v := undef) rfl (by kernel_rfl) (by kernel_rfl) (by kernel_rfl) (fun _ _ _ h => h) (Or.inr ⟨by rfl, rfl⟩) (by assumption) ?_
          (try simp only [Act.put, List.getElem_toArray, List.getElem_cons_zero, List.getElem_cons_succ, List.setIfInBounds_toArray, List.set_cons_zero, List.set_cons_succ])
          refine wpAnyH_take (i := 36) (oi := ({ dst := some 103, op := .call { callee := .value (.func 8), args := #[.tmp 102], argTypes := #[24] }, type := 4, pos := "ref.go:105", after := #[⟨35, .data⟩, ⟨34, .chain⟩, ⟨34, .guard⟩], guard := some (34, true) } : Go.Oper)) (v := undef) rfl (by kernel_rfl) (by kernel_rfl) (by kernel_rfl) (fun _ _ _ h => h) (Or.inr ⟨by rfl, rfl⟩) (by assumption) ?_
          (try simp only [Act.put, List.getElem_toArray, List.getElem_cons_zero, List.getElem_cons_succ, List.setIfInBounds_toArray, List.set_cons_zero, List.set_cons_succ])
          refine wpAnyH_take (i := 37) (oi := ({ dst := some 104, op := .pick (.tmp 101) (.tmp 103) (.const (.bool false)), type := 4, pos := "ref.go:105", after := #[⟨34, .data⟩, ⟨36, .data⟩, ⟨38, .gcOnly .lateStores⟩], guard := none } : Go.Oper)) (v := ?v145) rfl (by kernel_rfl) (by kernel_rfl) (by kernel_rfl) (fun _ _ _ h => h) (Or.inl ⟨by rfl, ?hy145⟩) (by assumption) ?rest145
          case hy145 => (intro w hSw; (try dsimp only at hSw); go_simp; (try with_reducible rfl))
          (try simp only [Act.put, List.getElem_toArray, List.getElem_cons_zero, List.getElem_cons_succ, List.setIfInBounds_toArray, List.set_cons_zero, List.set_cons_succ])
          refine wpAnyH_ready (rs := [38]) (by kernel_rfl) (by simp) ?_
          refine AllReadyH.cons (o := ({ dst := none, op := .store 24 (.tmp 4) (.tmp 67), type := 0, pos := "ref.go:105", after := #[⟨0, .data⟩, ⟨36, .chain⟩, ⟨0, .phase⟩, ⟨1, .textOnly .lateStores⟩, ⟨2, .textOnly .lateStores⟩, ⟨3, .textOnly .lateStores⟩, ⟨4, .textOnly .lateStoresUnsure⟩, ⟨5, .textOnly .lateStores⟩, ⟨6, .textOnly .lateStores⟩, ⟨7, .textOnly .lateStores⟩, ⟨8, .textOnly .lateStores⟩, ⟨9, .textOnly .lateStores⟩, ⟨10, .textOnly .lateStores⟩, ⟨11, .textOnly .lateStores⟩, ⟨12, .textOnly .lateStores⟩, ⟨13, .textOnly .lateStores⟩, ⟨14, .textOnly .lateStores⟩, ⟨15, .textOnly .lateStores⟩, ⟨16, .textOnly .lateStores⟩, ⟨17, .textOnly .lateStores⟩, ⟨18, .textOnly .lateStores⟩, ⟨19, .textOnly .lateStores⟩, ⟨20, .textOnly .lateStores⟩, ⟨21, .textOnly .lateStores⟩, ⟨22, .textOnly .lateStores⟩, ⟨23, .textOnly .lateStores⟩, ⟨24, .textOnly .lateStores⟩, ⟨25, .textOnly .lateStores⟩, ⟨26, .textOnly .lateStores⟩, ⟨27, .textOnly .lateStores⟩, ⟨28, .textOnly .lateStores⟩, ⟨29, .textOnly .lateStores⟩, ⟨30, .textOnly .lateStores⟩, ⟨31, .textOnly .lateStores⟩, ⟨32, .textOnly .lateStores⟩, ⟨33, .textOnly .lateStores⟩, ⟨34, .textOnly .lateStores⟩, ⟨35, .textOnly .lateStores⟩, ⟨36, .textOnly .lateStoresUnsure⟩, ⟨37, .textOnly .lateStores⟩], guard := none } : Go.Oper)) rfl (fun K hK => ?_) AllReadyH.nil
          (first | have X38 : Ext wc w8 := (by with_reducible (repeat (first | exact Ext.rfl_ _ | assumption | refine Ext.drew ?_ | refine Ext.drewN ?_ _ | refine Ext.alloc ?_ _ | refine Ext.trans ?_ (by assumption)))) | have X38 : Ext wc wc := Ext.rfl_ wc); have HC28 := Lib.hid (((Ext.below X38).block _ (Array.getElem?_eq_some_iff.1 HC2.out).1).trans HC2.out); have HO8 := Lib.hid (HO6.out.ext X38); have X8 := Lib.hid (XF.out.trans X38); obtain ⟨r0, r1, r2, r3, r4, s0, s1, s2, s3, s4⟩ := box5 HC28.out (Ext.rfl_ _); go_simp
          refine hK.out _ _ (by (try dsimp only); (refine HS16.out _ ?_; first | exact ((X38.grownBy _).trans_ (grown5 _ _ _ _ _ _ _)).drew_ | exact (X38.grownBy _).trans_ (grown5 _ _ _ _ _ _ _) | (refine Ext.grownBy ?_ _; (with_reducible (repeat (first | exact Ext.rfl_ _ | assumption | refine Ext.drew ?_ | refine Ext.alloc ?_ _ | refine Ext.trans ?_ (by assumption))))))) (fun hHeld => ?_)
          clear hK K
          (try simp only [Act.put, List.getElem_toArray, List.getElem_cons_zero, List.getElem_cons_succ, List.setIfInBounds_toArray, List.set_cons_zero, List.set_cons_succ])
          refine wpAnyH_take (i := 39) (oi := ({ dst := some 5, op := .assign (.tmp 104), type := 4, pos := "ref.go:105", after := #[⟨37, .data⟩, ⟨38, .chain⟩, ⟨0, .phase⟩, ⟨1, .phase⟩, ⟨2, .phase⟩, ⟨3, .phase⟩, ⟨4, .phase⟩, ⟨5, .phase⟩, ⟨6, .phase⟩, ⟨7, .phase⟩, ⟨8, .phase⟩, ⟨9, .phase⟩, ⟨10, .phase⟩, ⟨11, .phase⟩, ⟨12, .phase⟩, ⟨13, .phase⟩, ⟨14, .phase⟩, ⟨15, .phase⟩, ⟨16, .phase⟩, ⟨17, .phase⟩, ⟨18, .phase⟩, ⟨19, .phase⟩, ⟨20, .phase⟩, ⟨21, .phase⟩, ⟨22, .phase⟩, ⟨23, .phase⟩, ⟨24, .phase⟩, ⟨25, .phase⟩, ⟨26, .phase⟩, ⟨27, .phase⟩, ⟨28, .phase⟩, ⟨29, .phase⟩, ⟨30, .phase⟩, ⟨31, .phase⟩, ⟨32, .phase⟩, ⟨33, .phase⟩, ⟨34, .phase⟩, ⟨35, .phase⟩, ⟨36, .phase⟩, ⟨37, .phase⟩, ⟨38, .phase⟩], guard := none } : Go.Oper)) (v := ?v146) rfl (by kernel_rfl) (by kernel_rfl) (by kernel_rfl) (fun _ _ _ h => h) (Or.inl ⟨by rfl, ?hy146⟩) (by assumption) ?rest146
          case hy146 => (intro w hSw; (try dsimp only at hSw); go_simp; (try with_reducible rfl))
          (try simp only [Act.put, List.getElem_toArray, List.getElem_cons_zero, List.getElem_cons_succ, List.setIfInBounds_toArray, List.set_cons_zero, List.set_cons_succ])
          refine wpAnyH_done (by kernel_rfl) ?_ _
          all_goals
            obtain ⟨z0, z1, z2, z3, z4, _⟩ := box5 (set5 HC28.out (.int .i64 y.next) (.int .i64 y.log) (.int .i64 y.index) (.int .i64 y.seq) (.slice A6 n6 c6)) (Ext.rfl_ _)
            have HO9 := (HO8.out.other HC28.out (by decide) (by decide) noU8 (grown5 _ _ (.int .i64 y.next) (.int .i64 y.log) (.int .i64 y.index) (.int .i64 y.seq) (.slice A6 n6 c6)))
            go_wp2
            refine bodyPost_ret (v := .tuple #[.agg #[.int .i64 y.next, .int .i64 y.log, .int .i64 y.index, .int .i64 y.seq, .slice A6 n6 c6], .bool false]) (by simp [results, Try.f11, go_sem, z0, z1, z2, z3, z4]) rfl ?_
            exact ⟨_, by rw [HR.out], (ownT_ver2 y (HO9.ext (Ext.drew (Ext.rfl_ _))) (by rw [srtT_len, List.length_append]; unfold B47; omega)).out, (extSet5 X8.out HQ2.out _ _ _ _ _).drew⟩
        have d4 : decide (x.seq ≤ y.seq) = true := by simp [k4]
        have HR : Hid (rdoB x y = mayT (outT y (srtT (keptT x y ++ y.add)))) := Lib.hid (rdoB_may ⟨by omega, k1, k2, k3, k4⟩)
        clear k0 k1 k2 k3 k4
        go_wp2
        refine wp_region_held_drew (S := (fun W => (W.cell? ⟨w.heap.size, 0, none⟩ = some (.int .i64 x.next) ∧ W.cell? ⟨w.heap.size, 1, none⟩ = some (.int .i64 x.log) ∧ W.cell? ⟨w.heap.size, 2, none⟩ = some (.int .i64 x.index) ∧ W.cell? ⟨w.heap.size, 3, none⟩ = some (.int .i64 x.seq) ∧ W.cell? ⟨w.heap.size, 4, none⟩ = some (.slice A x.ts.length c)) ∧ (W.cell? ⟨q1, 0, none⟩ = some (.slice D y.drop.length dc) ∧ W.cell? ⟨q1, 1, none⟩ = some (.slice B y.add.length d) ∧ W.cell? ⟨q1, 2, none⟩ = some (.int .i64 y.next) ∧ W.cell? ⟨q1, 3, none⟩ = some (.int .i64 y.log) ∧ W.cell? ⟨q1, 4, none⟩ = some (.int .i64 y.index) ∧ W.cell? ⟨q1, 5, none⟩ = some (.int .i64 y.seq)) ∧ (W.cell? ⟨o, 0, none⟩ = some (.int .i64 y.next) ∧ W.cell? ⟨o, 1, none⟩ = some (.int .i64 y.log) ∧ W.cell? ⟨o, 2, none⟩ = some (.int .i64 y.index) ∧ W.cell? ⟨o, 3, none⟩ = some (.int .i64 y.seq) ∧ W.cell? ⟨o, 4, none⟩ = some (.slice A6 n6 c6)))) (by kernel_rfl) (by (try dsimp only); (refine HS16.out _ ?_; first | exact ((X38.grownBy _).trans_ (grown5 _ _ _ _ _ _ _)).drew_ | exact (X38.grownBy _).trans_ (grown5 _ _ _ _ _ _ _) | (refine Ext.grownBy ?_ _; (with_reducible (repeat (first | exact Ext.rfl_ _ | assumption | refine Ext.drew ?_ | refine Ext.alloc ?_ _ | refine Ext.trans ?_ (by assumption))))))) (fun hHeld => ?_)
        refine wpAnyH_take (i := 0) (oi := ({ dst := some 67, op := .load 24 (.tmp 11), type := 24, pos := "ref.go:105", after := #[], guard := none } : Go.Oper)) (v := ?v147) rfl (by kernel_rfl) (by kernel_rfl) (by kernel_rfl) (fun _ _ _ h => h) (Or.inl ⟨by rfl, ?hy147⟩) (by assumption) ?rest147
        case hy147 => (intro w hSw; (try dsimp only at hSw); go_simp; (try with_reducible rfl))
        (try simp only [Act.put, List.getElem_toArray, List.getElem_cons_zero, List.getElem_cons_succ, List.setIfInBounds_toArray, List.set_cons_zero, List.set_cons_succ])
        refine wpAnyH_take (i := 1) (oi := ({ dst := some 68, op := .move (.tmp 7), type := 3, pos := "ref.go:105", after := #[], guard := none } : Go.Oper)) (v := ?v148) rfl (by kernel_rfl) (by kernel_rfl) (by kernel_rfl) (fun _ _ _ h => h) (Or.inl ⟨by rfl, ?hy148⟩) (by assumption) ?rest148
        case hy148 => (intro w hSw; (try dsimp only at hSw); go_simp; (try with_reducible rfl))
        (try simp only [Act.put, List.getElem_toArray, List.getElem_cons_zero, List.getElem_cons_succ, List.setIfInBounds_toArray, List.set_cons_zero, List.set_cons_succ])
        refine wpAnyH_take (i := 2) (oi := ({ dst := some 69, op := .fieldAddr 29 (.tmp 3) 0, type := 0, pos := "ref.go:105", after := #[], guard := none } : Go.Oper)) (v := ?v149) rfl (by kernel_rfl) (by kernel_rfl) (by kernel_rfl) (fun _ _ _ h => h) (Or.inl ⟨by rfl, ?hy149⟩) (by assumption) ?rest149
        case hy149 => (intro w hSw; (try dsimp only at hSw); go_simp; (try with_reducible rfl))
        (try simp only [Act.put, List.getElem_toArray, List.getElem_cons_zero, List.getElem_cons_succ, List.setIfInBounds_toArray, List.set_cons_zero, List.set_cons_succ])
        refine wpAnyH_take (i := 3) (oi := ({ dst := some 70, op := .load 27 (.tmp 69), type := 27, pos := "ref.go:105", after := #[⟨2, .data⟩], guard := none } : Go.Oper)) (v := ?v150) rfl (by kernel_rfl) (by kernel_rfl) (by kernel_rfl) (fun _ _ _ h => h) (Or.inl ⟨by rfl, ?hy150⟩) (by assumption) ?rest150
        case hy150 => (intro w hSw; (try dsimp only at hSw); go_simp; (try with_reducible rfl))
        (try simp only [Act.put, List.getElem_toArray, List.getElem_cons_zero, List.getElem_cons_succ, List.setIfInBounds_toArray, List.set_cons_zero, List.set_cons_succ])
        refine wpAnyH_take (i := 4) (oi := ({ dst := some 71, op := .call { callee := .builtin .len, args := #[.tmp 70], argTypes := #[27] }, type := 3, pos := "ref.go:105", after := #[⟨3, .data⟩], guard := none } : Go.Oper)) (v := ?v151) rfl (by kernel_rfl) (by kernel_rfl) (by kernel_rfl) (fun _ _ _ h => h) (Or.inl ⟨by rfl, ?hy151⟩) (by assumption) ?rest151
        case hy151 => (intro w hSw; (try dsimp only at hSw); go_simp; (try with_reducible rfl))
        (try simp only [Act.put, List.getElem_toArray, List.getElem_cons_zero, List.getElem_cons_succ, List.setIfInBounds_toArray, List.set_cons_zero, List.set_cons_succ])
        refine wpAnyH_take (i := 5) (oi := ({ dst := some 72, op := .binOp .eql 3 (.tmp 68) (.tmp 71) 3, type := 4, pos := "ref.go:105", after := #[⟨1, .data⟩, ⟨4, .data⟩], guard := none } : Go.Oper)) (v := ?v152) rfl (by kernel_rfl) (by kernel_rfl) (by kernel_rfl) (fun _ _ _ h => h) (Or.inl ⟨by rfl, ?hy152⟩) (by assumption) ?rest152
        case hy152 => (intro w hSw; (try dsimp only at hSw); go_simp; (try with_reducible rfl))
        (try simp only [Act.put, List.getElem_toArray, List.getElem_cons_zero, List.getElem_cons_succ, List.setIfInBounds_toArray, List.set_cons_zero, List.set_cons_succ])
        refine wpAnyH_take (i := 6) (oi := ({ dst := some 73, op := .move (.tmp 72), type := 4, pos := "ref.go:105", after := #[⟨5, .data⟩], guard := none } : Go.Oper)) (v := ?v153) rfl (by kernel_rfl) (by kernel_rfl) (by kernel_rfl) (fun _ _ _ h => h) (Or.inl ⟨by rfl, ?hy153⟩) (by assumption) ?rest153
        case hy153 => (intro w hSw; (try dsimp only at hSw); go_simp; (try with_reducible rfl))
        (try simp only [Act.put, List.getElem_toArray, List.getElem_cons_zero, List.getElem_cons_succ, List.setIfInBounds_toArray, List.set_cons_zero, List.set_cons_succ])
        refine wpAnyH_take (i := 7) (oi := ({ dst := some 74, op := .fieldAddr 29 (.tmp 3) 2, type := 0, pos := "ref.go:105", after := #[⟨6, .guard⟩], guard := some (6, true) } : Go.Oper)) (v := ?v154) rfl (by kernel_rfl) (by kernel_rfl) (by kernel_rfl) (fun _ _ _ h => h) (Or.inl ⟨by rfl, ?hy154⟩) (by assumption) ?rest154
        case hy154 => (intro w hSw; (try dsimp only at hSw); go_simp; (try with_reducible rfl))
        (try simp only [Act.put, List.getElem_toArray, List.getElem_cons_zero, List.getElem_cons_succ, List.setIfInBounds_toArray, List.set_cons_zero, List.set_cons_succ])
        refine wpAnyH_take (i := 8) (oi := ({ dst := some 75, op := .load 2 (.tmp 74), type := 2, pos := "ref.go:105", after := #[⟨7, .data⟩, ⟨6, .guard⟩], guard := some (6, true) } : Go.Oper)) (v := ?v155) rfl (by kernel_rfl) (by kernel_rfl) (by kernel_rfl) (fun _ _ _ h => h) (Or.inl ⟨by rfl, ?hy155⟩) (by assumption) ?rest155
        case hy155 => (intro w hSw; (try dsimp only at hSw); go_simp; (try with_reducible rfl))
        (try simp only [Act.put, List.getElem_toArray, List.getElem_cons_zero, List.getElem_cons_succ, List.setIfInBounds_toArray, List.set_cons_zero, List.set_cons_succ])
        refine wpAnyH_take (i := 9) (oi := ({ dst := some 76, op := .fieldAddr 24 (.tmp 2) 0, type := 0, pos := "ref.go:105", after := #[⟨6, .guard⟩], guard := some (6, true) } : Go.Oper)) (v := ?v156) rfl (by kernel_rfl) (by kernel_rfl) (by kernel_rfl) (fun _ _ _ h => h) (Or.inl ⟨by rfl, ?hy156⟩) (by assumption) ?rest156
        case hy156 => (intro w hSw; (try dsimp only at hSw); go_simp; (try with_reducible rfl))
        (try simp only [Act.put, List.getElem_toArray, List.getElem_cons_zero, List.getElem_cons_succ, List.setIfInBounds_toArray, List.set_cons_zero, List.set_cons_succ])
        refine wpAnyH_take (i := 10) (oi := ({ dst := some 77, op := .load 2 (.tmp 76), type := 2, pos := "ref.go:105", after := #[⟨9, .data⟩, ⟨6, .guard⟩], guard := some (6, true) } : Go.Oper)) (v := ?v157) rfl (by kernel_rfl) (by kernel_rfl) (by kernel_rfl) (fun _ _ _ h => h) (Or.inl ⟨by rfl, ?hy157⟩) (by assumption) ?rest157
        case hy157 => (intro w hSw; (try dsimp only at hSw); go_simp; (try with_reducible rfl))
        (try simp only [Act.put, List.getElem_toArray, List.getElem_cons_zero, List.getElem_cons_succ, List.setIfInBounds_toArray, List.set_cons_zero, List.set_cons_succ])
        refine wpAnyH_take (i := 11) (oi := ({ dst := some 78, op := .binOp .geq 2 (.tmp 75) (.tmp 77) 2, type := 4, pos := "ref.go:105", after := #[⟨8, .data⟩, ⟨10, .data⟩, ⟨6, .guard⟩], guard := some (6, true) } : Go.Oper)) (v := ?v158) rfl (by kernel_rfl) (by kernel_rfl) (by kernel_rfl) (fun _ _ _ h => h) (Or.inl ⟨by rfl, ?hy158⟩) (by assumption) ?rest158
        case hy158 => (intro w hSw; (try dsimp only at hSw); go_simp; (try with_reducible rfl))
        (try simp only [Act.put, List.getElem_toArray, List.getElem_cons_zero, List.getElem_cons_succ, List.setIfInBounds_toArray, List.set_cons_zero, List.set_cons_succ])
        refine wpAnyH_take (i := 12) (oi := ({ dst := some 79, op := .pick (.tmp 73) (.tmp 78) (.const (.bool false)), type := 4, pos := "ref.go:105", after := #[⟨6, .data⟩, ⟨11, .data⟩], guard := none } : Go.Oper)) (v := ?v159) rfl (by kernel_rfl) (by kernel_rfl) (by kernel_rfl) (fun _ _ _ h => h) (Or.inl ⟨by rfl, ?hy159⟩) (by assumption) ?rest159
        case hy159 => (intro w hSw; (try dsimp only at hSw); go_simp; (try with_reducible rfl))
        (try simp only [Act.put, List.getElem_toArray, List.getElem_cons_zero, List.getElem_cons_succ, List.setIfInBounds_toArray, List.set_cons_zero, List.set_cons_succ])
        refine wpAnyH_take (i := 13) (oi := ({ dst := some 80, op := .move (.tmp 79), type := 4, pos := "ref.go:105", after := #[⟨12, .data⟩, ⟨6, .chain⟩], guard := none } : Go.Oper)) (v := ?v160) rfl (by kernel_rfl) (by kernel_rfl) (by kernel_rfl) (fun _ _ _ h => h) (Or.inl ⟨by rfl, ?hy160⟩) (by assumption) ?rest160
        case hy160 => (intro w hSw; (try dsimp only at hSw); go_simp; (try with_reducible rfl))
        (try simp only [Act.put, List.getElem_toArray, List.getElem_cons_zero, List.getElem_cons_succ, List.setIfInBounds_toArray, List.set_cons_zero, List.set_cons_succ])
        refine wpAnyH_take (i := 14) (oi := ({ dst := some 81, op := .fieldAddr 29 (.tmp 3) 3, type := 0, pos := "ref.go:105", after := #[⟨13, .guard⟩], guard := some (13, true) } : Go.Oper)) (v := ?v161) rfl (by kernel_rfl) (by kernel_rfl) (by kernel_rfl) (fun _ _ _ h => h) (Or.inl ⟨by rfl, ?hy161⟩) (by assumption) ?rest161
        case hy161 => (intro w hSw; (try dsimp only at hSw); go_simp; (try with_reducible rfl))
        (try simp only [Act.put, List.getElem_toArray, List.getElem_cons_zero, List.getElem_cons_succ, List.setIfInBounds_toArray, List.set_cons_zero, List.set_cons_succ])
        refine wpAnyH_take (i := 15) (oi := ({ dst := some 82, op := .load 2 (.tmp 81), type := 2, pos := "ref.go:105", after := #[⟨14, .data⟩, ⟨13, .guard⟩], guard := some (13, true) } : Go.Oper)) (v := ?v162) rfl (by kernel_rfl) (by kernel_rfl) (by kernel_rfl) (fun _ _ _ h => h) (Or.inl ⟨by rfl, ?hy162⟩) (by assumption) ?rest162
        case hy162 => (intro w hSw; (try dsimp only at hSw); go_simp; (try with_reducible rfl))
        (try simp only [Act.put, List.getElem_toArray, List.getElem_cons_zero, List.getElem_cons_succ, List.setIfInBounds_toArray, List.set_cons_zero, List.set_cons_succ])
        refine wpAnyH_take (i := 16) (oi := ({ dst := some 83, op := .fieldAddr 24 (.tmp 2) 1, type := 0, pos := "ref.go:105", after := #[⟨13, .guard⟩], guard := some (13, true) } : Go.Oper)) (v := ?v163) rfl (by kernel_rfl) (by kernel_rfl) (by kernel_rfl) (fun _ _ _ h => h) (Or.inl ⟨by rfl, ?hy163⟩) (by assumption) ?rest163
        case hy163 => (intro w hSw; (try dsimp only at hSw); go_simp; (try with_reducible rfl))
        (try simp only [Act.put, List.getElem_toArray, List.getElem_cons_zero, List.getElem_cons_succ, List.setIfInBounds_toArray, List.set_cons_zero, List.set_cons_succ])
        refine wpAnyH_take (i := 17) (oi := ({ dst := some 84, op := .load 2 (.tmp 83), type := 2, pos := "ref.go:105", after := #[⟨16, .data⟩, ⟨13, .guard⟩], guard := some (13, true) } : Go.Oper)) (v := ?v164) rfl (by kernel_rfl) (by kernel_rfl) (by kernel_rfl) (fun _ _ _ h => h) (Or.inl ⟨by rfl, ?hy164⟩) (by assumption) ?rest164
        case hy164 => (intro w hSw; (try dsimp only at hSw); go_simp; (try with_reducible rfl))
        (try simp only [Act.put, List.getElem_toArray, List.getElem_cons_zero, List.getElem_cons_succ, List.setIfInBounds_toArray, List.set_cons_zero, List.set_cons_succ])
        refine wpAnyH_take (i := 18) (oi := ({ dst := some 85, op := .binOp .geq 2 (.tmp 82) (.tmp 84) 2, type := 4, pos := "ref.go:105", after := #[⟨15, .data⟩, ⟨17, .data⟩, ⟨13, .guard⟩], guard := some (13, true) } : Go.Oper)) (v := ?v165) rfl (by kernel_rfl) (by kernel_rfl) (by kernel_rfl) (fun _ _ _ h => h) (Or.inl ⟨by rfl, ?hy165⟩) (by assumption) ?rest165
        case hy165 => (intro w hSw; (try dsimp only at hSw); go_simp; (try with_reducible rfl))
        (try simp only [Act.put, List.getElem_toArray, List.getElem_cons_zero, List.getElem_cons_succ, List.setIfInBounds_toArray, List.set_cons_zero, List.set_cons_succ])
        refine wpAnyH_take (i := 19) (oi := ({ dst := some 86, op := .pick (.tmp 80) (.tmp 85) (.const (.bool false)), type := 4, pos := "ref.go:105", after := #[⟨13, .data⟩, ⟨18, .data⟩], guard := none } : Go.Oper)) (v := ?v166) rfl (by kernel_rfl) (by kernel_rfl) (by kernel_rfl) (fun _ _ _ h => h) (Or.inl ⟨by rfl, ?hy166⟩) (by assumption) ?rest166
        case hy166 => (intro w hSw; (try dsimp only at hSw); go_simp; (try with_reducible rfl))
        (try simp only [Act.put, List.getElem_toArray, List.getElem_cons_zero, List.getElem_cons_succ, List.setIfInBounds_toArray, List.set_cons_zero, List.set_cons_succ])
        refine wpAnyH_take (i := 20) (oi := ({ dst := some 87, op := .move (.tmp 86), type := 4, pos := "ref.go:105", after := #[⟨19, .data⟩, ⟨13, .chain⟩], guard := none } : Go.Oper)) (v := ?v167) rfl (by kernel_rfl) (by kernel_rfl) (by kernel_rfl) (fun _ _ _ h => h) (Or.inl ⟨by rfl, ?hy167⟩) (by assumption) ?rest167
        case hy167 => (intro w hSw; (try dsimp only at hSw); go_simp; (try with_reducible rfl))
        (try simp only [Act.put, List.getElem_toArray, List.getElem_cons_zero, List.getElem_cons_succ, List.setIfInBounds_toArray, List.set_cons_zero, List.set_cons_succ])
        refine wpAnyH_take (i := 21) (oi := ({ dst := some 88, op := .fieldAddr 29 (.tmp 3) 4, type := 0, pos := "ref.go:105", after := #[⟨20, .guard⟩], guard := some (20, true) } : Go.Oper)) (v := ?v168) rfl (by kernel_rfl) (by kernel_rfl) (by kernel_rfl) (fun _ _ _ h => h) (Or.inl ⟨by rfl, ?hy168⟩) (by assumption) ?rest168
        case hy168 => (intro w hSw; (try dsimp only at hSw); go_simp; (try with_reducible rfl))
        (try simp only [Act.put, List.getElem_toArray, List.getElem_cons_zero, List.getElem_cons_succ, List.setIfInBounds_toArray, List.set_cons_zero, List.set_cons_succ])
        refine wpAnyH_take (i := 22) (oi := ({ dst := some 89, op := .load 2 (.tmp 88), type := 2, pos := "ref.go:105", after := #[⟨21, .data⟩, ⟨20, .guard⟩], guard := some (20, true) } : Go.Oper)) (v := ?v169) rfl (by kernel_rfl) (by kernel_rfl) (by kernel_rfl) (fun _ _ _ h => h) (Or.inl ⟨by rfl, ?hy169⟩) (by assumption) ?rest169
        case hy169 => (intro w hSw; (try dsimp only at hSw); go_simp; (try with_reducible rfl))
        (try simp only [Act.put, List.getElem_toArray, List.getElem_cons_zero, List.getElem_cons_succ, List.setIfInBounds_toArray, List.set_cons_zero, List.set_cons_succ])
        refine wpAnyH_take (i := 23) (oi := ({ dst := some 90, op := .fieldAddr 24 (.tmp 2) 2, type := 0, pos := "ref.go:105", after := #[⟨20, .guard⟩], guard := some (20, true) } : Go.Oper)) (v := ?v170) rfl (by kernel_rfl) (by kernel_rfl) (by kernel_rfl) (fun _ _ _ h => h) (Or.inl ⟨by rfl, ?hy170⟩) (by assumption) ?rest170
        case hy170 => (intro w hSw; (try dsimp only at hSw); go_simp; (try with_reducible rfl))
        (try simp only [Act.put, List.getElem_toArray, List.getElem_cons_zero, List.getElem_cons_succ, List.setIfInBounds_toArray, List.set_cons_zero, List.set_cons_succ])
        refine wpAnyH_take (i := 24) (oi := ({ dst := some 91, op := .load 2 (.tmp 90), type := 2, pos := "ref.go:105", after := #[⟨23, .data⟩, ⟨20, .guard⟩], guard := some (20, true) } : Go.Oper)) (v := ?v171) rfl (by kernel_rfl) (by kernel_rfl) (by kernel_rfl) (fun _ _ _ h => h) (Or.inl ⟨by rfl, ?hy171⟩) (by assumption) ?rest171
        case hy171 => (intro w hSw; (try dsimp only at hSw); go_simp; (try with_reducible rfl))
        (try simp only [Act.put, List.getElem_toArray, List.getElem_cons_zero, List.getElem_cons_succ, List.setIfInBounds_toArray, List.set_cons_zero, List.set_cons_succ])
        refine wpAnyH_take (i := 25) (oi := ({ dst := some 92, op := .binOp .geq 2 (.tmp 89) (.tmp 91) 2, type := 4, pos := "ref.go:105", after := #[⟨22, .data⟩, ⟨24, .data⟩, ⟨20, .guard⟩], guard := some (20, true) } : Go.Oper)) (v := ?v172) rfl (by kernel_rfl) (by kernel_rfl) (by kernel_rfl) (fun _ _ _ h => h) (Or.inl ⟨by rfl, ?hy172⟩) (by assumption) ?rest172
        case hy172 => (intro w hSw; (try dsimp only at hSw); go_simp; (try with_reducible rfl))
        (try simp only [Act.put, List.getElem_toArray, List.getElem_cons_zero, List.getElem_cons_succ, List.setIfInBounds_toArray, List.set_cons_zero, List.set_cons_succ])
        refine wpAnyH_take (i := 26) (oi := ({ dst := some 93, op := .pick (.tmp 87) (.tmp 92) (.const (.bool false)), type := 4, pos := "ref.go:105", after := #[⟨20, .data⟩, ⟨25, .data⟩], guard := none } : Go.Oper)) (v := ?v173) rfl (by kernel_rfl) (by kernel_rfl) (by kernel_rfl) (fun _ _ _ h => h) (Or.inl ⟨by rfl, ?hy173⟩) (by assumption) ?rest173
        case hy173 => (intro w hSw; (try dsimp only at hSw); go_simp; (try with_reducible rfl))
        (try simp only [Act.put, List.getElem_toArray, List.getElem_cons_zero, List.getElem_cons_succ, List.setIfInBounds_toArray, List.set_cons_zero, List.set_cons_succ])
        refine wpAnyH_take (i := 27) (oi := ({ dst := some 94, op := .move (.tmp 93), type := 4, pos := "ref.go:105", after := #[⟨26, .data⟩, ⟨20, .chain⟩], guard := none } : Go.Oper)) (v := ?v174) rfl (by kernel_rfl) (by kernel_rfl) (by kernel_rfl) (fun _ _ _ h => h) (Or.inl ⟨by rfl, ?hy174⟩) (by assumption) ?rest174
        case hy174 => (intro w hSw; (try dsimp only at hSw); go_simp; (try with_reducible rfl))
        (try simp only [Act.put, List.getElem_toArray, List.getElem_cons_zero, List.getElem_cons_succ, List.setIfInBounds_toArray, List.set_cons_zero, List.set_cons_succ])
        refine wpAnyH_take (i := 28) (oi := ({ dst := some 95, op := .fieldAddr 29 (.tmp 3) 5, type := 0, pos := "ref.go:105", after := #[⟨27, .guard⟩], guard := some (27, true) } : Go.Oper)) (v := ?v175) rfl (by kernel_rfl) (by kernel_rfl) (by kernel_rfl) (fun _ _ _ h => h) (Or.inl ⟨by rfl, ?hy175⟩) (by assumption) ?rest175
        case hy175 => (intro w hSw; (try dsimp only at hSw); go_simp; (try with_reducible rfl))
        (try simp only [Act.put, List.getElem_toArray, List.getElem_cons_zero, List.getElem_cons_succ, List.setIfInBounds_toArray, List.set_cons_zero, List.set_cons_succ])
        refine wpAnyH_take (i := 29) (oi := ({ dst := some 96, op := .load 2 (.tmp 95), type := 2, pos := "ref.go:105", after := #[⟨28, .data⟩, ⟨27, .guard⟩], guard := some (27, true) } : Go.Oper)) (v := ?v176) rfl (by kernel_rfl) (by kernel_rfl) (by kernel_rfl) (fun _ _ _ h => h) (Or.inl ⟨by rfl, ?hy176⟩) (by assumption) ?rest176
        case hy176 => (intro w hSw; (try dsimp only at hSw); go_simp; (try with_reducible rfl))
        (try simp only [Act.put, List.getElem_toArray, List.getElem_cons_zero, List.getElem_cons_succ, List.setIfInBounds_toArray, List.set_cons_zero, List.set_cons_succ])
        refine wpAnyH_take (i := 30) (oi := ({ dst := some 97, op := .fieldAddr 24 (.tmp 2) 3, type := 0, pos := "ref.go:105", after := #[⟨27, .guard⟩], guard := some (27, true) } : Go.Oper)) (v := ?v177) rfl (by kernel_rfl) (by kernel_rfl) (by kernel_rfl) (fun _ _ _ h => h) (Or.inl ⟨by rfl, ?hy177⟩) (by assumption) ?rest177
        case hy177 => (intro w hSw; (try dsimp only at hSw); go_simp; (try with_reducible rfl))
        (try simp only [Act.put, List.getElem_toArray, List.getElem_cons_zero, List.getElem_cons_succ, List.setIfInBounds_toArray, List.set_cons_zero, List.set_cons_succ])
        refine wpAnyH_take (i := 31) (oi := ({ dst := some 98, op := .load 2 (.tmp 97), type := 2, pos := "ref.go:105", after := #[⟨30, .data⟩, ⟨27, .guard⟩], guard := some (27, true) } : Go.Oper)) (v := ?v178) rfl (by kernel_rfl) (by kernel_rfl) (by kernel_rfl) (fun _ _ _ h => h) (Or.inl ⟨by rfl, ?hy178⟩) (by assumption) ?rest178
        case hy178 => (intro w hSw; (try dsimp only at hSw); go_simp; (try with_reducible rfl))
        (try simp only [Act.put, List.getElem_toArray, List.getElem_cons_zero, List.getElem_cons_succ, List.setIfInBounds_toArray, List.set_cons_zero, List.set_cons_succ])
        refine wpAnyH_take (i := 32) (oi := ({ dst := some 99, op := .binOp .geq 2 (.tmp 96) (.tmp 98) 2, type := 4, pos := "ref.go:105", after := #[⟨29, .data⟩, ⟨31, .data⟩, ⟨27, .guard⟩], guard := some (27, true) } : Go.Oper)) (v := ?v179) rfl (by kernel_rfl) (by kernel_rfl) (by kernel_rfl) (fun _ _ _ h => h) (Or.inl ⟨by rfl, ?hy179⟩) (by assumption) ?rest179
        case hy179 => (intro w hSw; (try dsimp only at hSw); go_simp; (try with_reducible rfl))
        (try simp only [Act.put, List.getElem_toArray, List.getElem_cons_zero, List.getElem_cons_succ, List.setIfInBounds_toArray, List.set_cons_zero, List.set_cons_succ])
        refine wpAnyH_take (i := 33) (oi := ({ dst := some 100, op := .pick (.tmp 94) (.tmp 99) (.const (.bool false)), type := 4, pos := "ref.go:105", after := #[⟨27, .data⟩, ⟨32, .data⟩], guard := none } : Go.Oper)) (v := ?v180) rfl (by kernel_rfl) (by kernel_rfl) (by kernel_rfl) (fun _ _ _ h => h) (Or.inl ⟨by rfl, ?hy180⟩) (by assumption) ?rest180
        case hy180 => (intro w hSw; (try dsimp only at hSw); go_simp; (try with_reducible rfl))
        (try simp only [Act.put, List.getElem_toArray, List.getElem_cons_zero, List.getElem_cons_succ, List.setIfInBounds_toArray, List.set_cons_zero, List.set_cons_succ])
        refine wpAnyH_take (i := 34) (oi := ({ dst := some 101, op := .move (.tmp 100), type := 4, pos := "ref.go:105", after := #[⟨33, .data⟩, ⟨27, .chain⟩], guard := none } : Go.Oper)) (v := ?v181) rfl (by kernel_rfl) (by kernel_rfl) (by kernel_rfl) (fun _ _ _ h => h) (Or.inl ⟨by rfl, ?hy181⟩) (by assumption) ?rest181
        case hy181 => (intro w hSw; (try dsimp only at hSw); go_simp; (try with_reducible rfl))
        (try simp only [Act.put, List.getElem_toArray, List.getElem_cons_zero, List.getElem_cons_succ, List.setIfInBounds_toArray, List.set_cons_zero, List.set_cons_succ])
        refine wpAnyH_take (i := 35) (oi := ({ dst := some 102, op := .load 24 (.tmp 11), type := 24, pos := "ref.go:105", after := #[⟨34, .guard⟩], guard := some (34, true) } : Go.Oper)) (v := ?v182) rfl (by kernel_rfl) (by kernel_rfl) (by kernel_rfl) (fun _ _ _ h => h) (Or.inl ⟨by rfl, ?hy182⟩) (by assumption) ?rest182
        case hy182 => (intro w hSw; (try dsimp only at hSw); go_simp; (try with_reducible rfl))
        (try simp only [Act.put, List.getElem_toArray, List.getElem_cons_zero, List.getElem_cons_succ, List.setIfInBounds_toArray, List.set_cons_zero, List.set_cons_succ])
        refine wpAnyH_ready (rs := [36]) (by kernel_rfl) (by simp) ?_
        refine AllReadyH.cons (o := ({ dst := some 103, op := .call { callee := .value (.func 8), args := #[.tmp 102], argTypes := #[24] }, type := 4, pos := "ref.go:105", after := #[⟨35, .data⟩, ⟨34, .chain⟩, ⟨34, .guard⟩], guard := some (34, true) } : Go.Oper)) rfl (fun K hK => ?_) AllReadyH.nil
        go_simp
        (go_at_call 8; refine (rmay_any _ (outT y (srtT (keptT x y ++ y.add))) _ (HV6.out.ext (by with_reducible (repeat (first | exact Ext.rfl_ _ | assumption | refine Ext.drew ?_ | refine Ext.drewN ?_ _ | refine Ext.alloc ?_ _ | refine Ext.trans ?_ (by assumption)))))).mono ?_; rintro e w8 ⟨rfl, hw8⟩)
        (try (go_wp2_with fail))
        refine hK.out _ _ (by (try dsimp only); (refine HS16.out _ ?_; first | exact ((X38.grownBy _).trans_ (grown5 _ _ _ _ _ _ _)).drew_ | exact (X38.grownBy _).trans_ (grown5 _ _ _ _ _ _ _) | (refine Ext.grownBy ?_ _; (with_reducible (repeat (first | exact Ext.rfl_ _ | assumption | refine Ext.drew ?_ | refine Ext.alloc ?_ _ | refine Ext.trans ?_ (by assumption))))))) (fun hHeld => ?_)
        clear hK K
        (try simp only [Act.put, List.getElem_toArray, List.getElem_cons_zero, List.getElem_cons_succ, List.setIfInBounds_toArray, List.set_cons_zero, List.set_cons_succ])
        refine wpAnyH_take (i := 37) (oi := ({ dst := some 104, op := .pick (.tmp 101) (.tmp 103) (.const (.bool false)), type := 4, pos := "ref.go:105", after := #[⟨34, .data⟩, ⟨36, .data⟩, ⟨38, .gcOnly .lateStores⟩], guard := none } : Go.Oper)) (v := ?v183) rfl (by kernel_rfl) (by kernel_rfl) (by kernel_rfl) (fun _ _ _ h => h) (Or.inl ⟨by rfl, ?hy183⟩) (by assumption) ?rest183
        case hy183 => (intro w hSw; (try dsimp only at hSw); go_simp; (try with_reducible rfl))
        (try simp only [Act.put, List.getElem_toArray, List.getElem_cons_zero, List.getElem_cons_succ, List.setIfInBounds_toArray, List.set_cons_zero, List.set_cons_succ])
        refine wpAnyH_ready (rs := [38]) (by kernel_rfl) (by simp) ?_
        refine AllReadyH.cons (o := ({ dst := none, op := .store 24 (.tmp 4) (.tmp 67), type := 0, pos := "ref.go:105", after := #[⟨0, .data⟩, ⟨36, .chain⟩, ⟨0, .phase⟩, ⟨1, .textOnly .lateStores⟩, ⟨2, .textOnly .lateStores⟩, ⟨3, .textOnly .lateStores⟩, ⟨4, .textOnly .lateStoresUnsure⟩, ⟨5, .textOnly .lateStores⟩, ⟨6, .textOnly .lateStores⟩, ⟨7, .textOnly .lateStores⟩, ⟨8, .textOnly .lateStores⟩, ⟨9, .textOnly .lateStores⟩, ⟨10, .textOnly .lateStores⟩, ⟨11, .textOnly .lateStores⟩, ⟨12, .textOnly .lateStores⟩, ⟨13, .textOnly .lateStores⟩, ⟨14, .textOnly .lateStores⟩, ⟨15, .textOnly .lateStores⟩, ⟨16, .textOnly .lateStores⟩, ⟨17, .textOnly .lateStores⟩, ⟨18, .textOnly .lateStores⟩, ⟨19, .textOnly .lateStores⟩, ⟨20, .textOnly .lateStores⟩, ⟨21, .textOnly .lateStores⟩, ⟨22, .textOnly .lateStores⟩, ⟨23, .textOnly .lateStores⟩, ⟨24, .textOnly .lateStores⟩, ⟨25, .textOnly .lateStores⟩, ⟨26, .textOnly .lateStores⟩, ⟨27, .textOnly .lateStores⟩, ⟨28, .textOnly .lateStores⟩, ⟨29, .textOnly .lateStores⟩, ⟨30, .textOnly .lateStores⟩, ⟨31, .textOnly .lateStores⟩, ⟨32, .textOnly .lateStores⟩, ⟨33, .textOnly .lateStores⟩, ⟨34, .textOnly .lateStores⟩, ⟨35, .textOnly .lateStores⟩, ⟨36, .textOnly .lateStoresUnsure⟩, ⟨37, .textOnly .lateStores⟩], guard := none } : Go.Oper)) rfl (fun K hK => ?_) AllReadyH.nil
        (first | have X38 : Ext wc w8 := (by with_reducible (repeat (first | exact Ext.rfl_ _ | assumption | refine Ext.drew ?_ | refine Ext.drewN ?_ _ | refine Ext.alloc ?_ _ | refine Ext.trans ?_ (by assumption)))) | have X38 : Ext wc wc := Ext.rfl_ wc); have HC28 := Lib.hid (((Ext.below X38).block _ (Array.getElem?_eq_some_iff.1 HC2.out).1).trans HC2.out); have HO8 := Lib.hid (HO6.out.ext X38); have X8 := Lib.hid (XF.out.trans X38); obtain ⟨r0, r1, r2, r3, r4, s0, s1, s2, s3, s4⟩ := box5 HC28.out (Ext.rfl_ _); go_simp
        refine hK.out _ _ (by (try dsimp only); (refine HS16.out _ ?_; first | exact ((X38.grownBy _).trans_ (grown5 _ _ _ _ _ _ _)).drew_ | exact (X38.grownBy _).trans_ (grown5 _ _ _ _ _ _ _) | (refine Ext.grownBy ?_ _; (with_reducible (repeat (first | exact Ext.rfl_ _ | assumption | refine Ext.drew ?_ | refine Ext.alloc ?_ _ | refine Ext.trans ?_ (by assumption))))))) (fun hHeld => ?_)
        clear hK K
        (try simp only [Act.put, List.getElem_toArray, List.getElem_cons_zero, List.getElem_cons_succ, List.setIfInBounds_toArray, List.set_cons_zero, List.set_cons_succ])
        refine wpAnyH_take (i := 39) (oi := ({ dst := some 5, op := .assign (.tmp 104), type := 4, pos := "ref.go:105", after := #[⟨37, .data⟩, ⟨38, .chain⟩, ⟨0, .phase⟩, ⟨1, .phase⟩, ⟨2, .phase⟩, ⟨3, .phase⟩, ⟨4, .phase⟩, ⟨5, .phase⟩, ⟨6, .phase⟩, ⟨7, .phase⟩, ⟨8, .phase⟩, ⟨9, .phase⟩, ⟨10, .phase⟩, ⟨11, .phase⟩, ⟨12, .phase⟩, ⟨13, .phase⟩, ⟨14, .phase⟩, ⟨15, .phase⟩, ⟨16, .phase⟩, ⟨17, .phase⟩, ⟨18, .phase⟩, ⟨19, .phase⟩, ⟨20, .phase⟩, ⟨21, .phase⟩, ⟨22, .phase⟩, ⟨23, .phase⟩, ⟨24, .phase⟩, ⟨25, .phase⟩, ⟨26, .phase⟩, ⟨27, .phase⟩, ⟨28, .phase⟩, ⟨29, .phase⟩, ⟨30, .phase⟩, ⟨31, .phase⟩, ⟨32, .phase⟩, ⟨33, .phase⟩, ⟨34, .phase⟩, ⟨35, .phase⟩, ⟨36, .phase⟩, ⟨37, .phase⟩, ⟨38, .phase⟩], guard := none } : Go.Oper)) (v := ?v184) rfl (by kernel_rfl) (by kernel_rfl) (by kernel_rfl) (fun _ _ _ h => h) (Or.inl ⟨by rfl, ?hy184⟩) (by assumption) ?rest184
        case hy184 => (intro w hSw; (try dsimp only at hSw); go_simp; (try with_reducible rfl))
        (try simp only [Act.put, List.getElem_toArray, List.getElem_cons_zero, List.getElem_cons_succ, List.setIfInBounds_toArray, List.set_cons_zero, List.set_cons_succ])
        refine wpAnyH_done (by kernel_rfl) ?_ _
        all_goals
          obtain ⟨z0, z1, z2, z3, z4, _⟩ := box5 (set5 HC28.out (.int .i64 y.next) (.int .i64 y.log) (.int .i64 y.index) (.int .i64 y.seq) (.slice A6 n6 c6)) (Ext.rfl_ _)
          have HO9 := (HO8.out.other HC28.out (by decide) (by decide) noU8 (grown5 _ _ (.int .i64 y.next) (.int .i64 y.log) (.int .i64 y.index) (.int .i64 y.seq) (.slice A6 n6 c6)))
          go_wp2
          refine bodyPost_ret (v := .tuple #[.agg #[.int .i64 y.next, .int .i64 y.log, .int .i64 y.index, .int .i64 y.seq, .slice A6 n6 c6], .bool (mayT (outT y (srtT (keptT x y ++ y.add))))]) (by simp [results, Try.f11, go_sem, z0, z1, z2, z3, z4]) rfl ?_
          exact ⟨_, by rw [HR.out], (ownT_ver2 y HO9 (by rw [srtT_len, List.length_append]; unfold B47; omega)).out, extSet5 X8.out HQ2.out _ _ _ _ _⟩
    obtain ⟨b, o, A1, n1, c1, A2, n2, c2, t, rfl, ht, ⟨r0, r1, r2, r3, r4⟩, hr⟩ := HL.out.at_ i (by omega)
    have HT0 := Lib.hid ht
    have HT := Lib.hid hr
    have HS := Lib.hid (show ∀ W, Ext W0 W → (W.cell? ⟨b, o + i * 5, none⟩ = some (.int .i64 t.num) ∧ W.cell? ⟨b, o + i * 5 + 1, none⟩ = some (.int .i64 t.lvl) ∧ W.cell? ⟨b, o + i * 5 + 2, none⟩ = some (.slice A1 n1 c1) ∧ W.cell? ⟨b, o + i * 5 + 3, none⟩ = some (.slice A2 n2 c2) ∧ W.cell? ⟨b, o + i * 5 + 4, none⟩ = some (.int .i64 t.size)) from
      fun W hW => ⟨(X0.out.trans hW).keeps _ _ _ r0, (X0.out.trans hW).keeps _ _ _ r1, (X0.out.trans hW).keeps _ _ _ r2, (X0.out.trans hW).keeps _ _ _ r3, (X0.out.trans hW).keeps _ _ _ r4⟩)
    clear r0 r1 r2 r3 r4 hr ht
    go_wp2
    have HEW := Lib.hid hE
    clear hE a0 a1 a2 a3 a4
    go_loopw [9, 10] (fun g k wr2 => ∃ k' : Nat, k = .int .i64 k' ∧ g = .bool (decide (t.num ∈ y.drop.take k')) ∧ k' ≤ y.drop.length ∧ Ext wo wr2) (fun _ k _ => y.drop.length - (intOf k).toNat)
    case atStart => exact ⟨0, rfl, by simp, Nat.zero_le _, Ext.rfl_ _⟩
    case round =>
      obtain ⟨k, rfl, rfl, hk, hE2⟩ := hrel
      obtain ⟨y0, y1, y2, y3, y4, y5⟩ := HEB.out wr (HEW.out.trans hE2)
      by_cases c2' : (k : Int) < (y.drop.length : Int)
      rotate_left
      · have hkk : k = y.drop.length := by omega
        subst hkk
        rw [List.take_length]
        by_cases dm : t.num ∈ y.drop
        · have d1 := decide_eq_true dm
          obtain ⟨e1, e2⟩ := keptK_yes HT0.out dm
          have HO2 := Lib.hid (show OwnT wr W0.heap.size u6 (keptK x y (i + 1)) by rw [e1]; exact HO.out.ext hE2)
          have E2 : Hid (((foundT x y i : Nat) : Int) + 1 = ((foundT x y (i + 1) : Nat) : Int)) := Lib.hid (by omega)
          have hfl := foundT_le x y i
          rw [d1]
          clear dm e1 e2
          go_wp2
          go_roundw
          case rel => exact ⟨i + 1, by simp, by rw [← E2.out], by omega, HEW.out.trans hE2, HO2⟩
          case measure => simp [intOf]; omega
        · have d1 := decide_eq_false dm
          obtain ⟨e1, e2⟩ := keptK_no HT0.out dm
          have E1 := Lib.hid e1
          have E2 := Lib.hid e2
          obtain ⟨a0, a1, a2, a3, a4⟩ := HV.out wr (HEW.out.trans hE2)
          obtain ⟨t0, t1, t2, t3, t4⟩ := HS.out wr (HEW.out.trans hE2)
          have HO2 := Lib.hid (HO.out.ext hE2)
          have hkl := keptK_len x y i
          have HEX := Lib.hid (rd_eltT (w' := wr) (base := W0.heap.size) HT.out (X0.out.trans (HEW.out.trans hE2)) X0.out.size)
          have HRA := Lib.hid (RdTa.one 40 HEX.out)
          have Z := Lib.hid (Nat.le_trans HEW.out.size hE2.size)
          rw [d1]
          clear dm e1 e2
          go_wp2_with (at_builtin; refine wp_appT rfl _ _ rfl W0.heap.size u6 (keptK x y i) rfl (HO2.out.ext (by with_reducible (repeat (first | exact Ext.rfl_ _ | assumption | refine Ext.drew ?_ | refine Ext.drewN ?_ _ | refine Ext.alloc ?_ _ | refine Ext.trans ?_ (by assumption))))) (some ⟨wr.heap.size, 0, none⟩) 1 1 [t] rfl HRA.out (by unfold B40; simp; omega) (by have := Z.out; simp; omega) ?_; intro v5 w5 h5 g5 _; have H5 := Lib.hid h5; have X5 : Hid (Ext W0 w5) := Lib.hid (Ext.growT ((HEW.out.trans hE2).alloc _) g5 (HO2.out.ext (by with_reducible (repeat (first | exact Ext.rfl_ _ | assumption | refine Ext.drew ?_ | refine Ext.drewN ?_ _ | refine Ext.alloc ?_ _ | refine Ext.trans ?_ (by assumption))))) (Nat.le_refl _)); clear h5 g5)
          go_roundw
          case rel => exact ⟨i + 1, by simp, by rw [E2.out], by omega, X5.out, Lib.hid (by rw [E1.out]; exact H5.out)⟩
          case measure => simp [intOf]; omega
      obtain ⟨b', o', z, rfl, hz, _, hc⟩ := HD.out.at_ k (by omega)
      have HTK : Hid (y.drop.take (k + 1) = y.drop.take k ++ [z]) := Lib.hid (by rw [List.take_add_one, hz]; rfl)
      have HCK := Lib.hid hc
      have HSK := Lib.hid (show ∀ W, Ext wr W → (W.cell? ⟨q1, 0, none⟩ = some (.slice (some ⟨b', o', none⟩) y.drop.length dc) ∧ W.cell? ⟨w.heap.size, 4, none⟩ = some (.slice (some ⟨b, o, none⟩) x.ts.length c)) ∧ W.cell? ⟨b, o + i * 5, none⟩ = some (.int .i64 t.num) ∧ W.cell? ⟨b', o' + k, none⟩ = some (.int .i64 z) from fun W hW =>
        ⟨⟨(HEB.out W (HEW.out.trans (hE2.trans hW))).1, (HV.out W (HEW.out.trans (hE2.trans hW))).2.2.2.2⟩, (HS.out W (HEW.out.trans (hE2.trans hW))).1, (X0.out.trans (HEW.out.trans (hE2.trans hW))).keeps _ _ _ HCK.out⟩)
      clear hz hc
      by_cases dm : t.num ∈ y.drop.take k
      · have d1 := decide_eq_true dm
        have DN : Hid (decide (t.num ∈ y.drop.take (k + 1)) = true) := Lib.hid (decide_eq_true (by rw [HTK.out]; exact List.mem_append_left _ dm))
        rw [d1]
        clear dm
        go_wp2
        refine wp_region_held_drew (S := (fun W => (W.cell? ⟨q1, 0, none⟩ = some (.slice (some ⟨b', o', none⟩) y.drop.length dc) ∧ W.cell? ⟨w.heap.size, 4, none⟩ = some (.slice (some ⟨b, o, none⟩) x.ts.length c)) ∧ W.cell? ⟨b, o + i * 5, none⟩ = some (.int .i64 t.num) ∧ W.cell? ⟨b', o' + k, none⟩ = some (.int .i64 z))) (by kernel_rfl) (by (try dsimp only); exact HSK.out _ (by with_reducible (repeat (first | exact Ext.rfl_ _ | assumption | refine Ext.drew ?_ | refine Ext.drewN ?_ _ | refine Ext.alloc ?_ _ | refine Ext.trans ?_ (by assumption))))) (fun hHeld => ?_)
        refine wpAnyH_take (i := 0) (oi := ({ dst := some 26, op := .move (.tmp 9), type := 4, pos := "ref.go:95", after := #[], guard := none } : Go.Oper)) (v := ?v185) rfl (by kernel_rfl) (by kernel_rfl) (by kernel_rfl) (fun _ _ _ h => h) (Or.inl ⟨by rfl, ?hy185⟩) (by assumption) ?rest185
        case hy185 => (intro w hSw; (try dsimp only at hSw); go_simp; (try with_reducible rfl))
        (try simp only [Act.put, List.getElem_toArray, List.getElem_cons_zero, List.getElem_cons_succ, List.setIfInBounds_toArray, List.set_cons_zero, List.set_cons_succ])
        refine wpAnyH_take (i := 1) (oi := ({ dst := some 27, op := .move (.tmp 26), type := 4, pos := "ref.go:95", after := #[⟨0, .data⟩], guard := none } : Go.Oper)) (v := ?v186) rfl (by kernel_rfl) (by kernel_rfl) (by kernel_rfl) (fun _ _ _ h => h) (Or.inl ⟨by rfl, ?hy186⟩) (by assumption) ?rest186
        case hy186 => (intro w hSw; (try dsimp only at hSw); go_simp; (try with_reducible rfl))
        (try simp only [Act.put, List.getElem_toArray, List.getElem_cons_zero, List.getElem_cons_succ, List.setIfInBounds_toArray, List.set_cons_zero, List.set_cons_succ])
        refine wpAnyH_take (i := 2) (oi := ({ dst := some 28, op := .fieldAddr 29 (.tmp 3) 0, type := 0, pos := "ref.go:95", after := #[⟨1, .guard⟩], guard := some (1, false) } : Go.Oper)) (v := undef) rfl (by kernel_rfl) (by kernel_rfl) (by kernel_rfl) (fun _ _ _ h => h) (Or.inr ⟨by rfl, rfl⟩) (by assumption) ?_
        (try simp only [Act.put, List.getElem_toArray, List.getElem_cons_zero, List.getElem_cons_succ, List.setIfInBounds_toArray, List.set_cons_zero, List.set_cons_succ])
        refine wpAnyH_take (i := 3) (oi := ({ dst := some 29, op := .load 27 (.tmp 28), type := 27, pos := "ref.go:95", after := #[⟨2, .data⟩, ⟨1, .guard⟩], guard := some (1, false) } : Go.Oper)) (v := undef) rfl (by kernel_rfl) (by kernel_rfl) (by kernel_rfl) (fun _ _ _ h => h) (Or.inr ⟨by rfl, rfl⟩) (by assumption) ?_
        (try simp only [Act.put, List.getElem_toArray, List.getElem_cons_zero, List.getElem_cons_succ, List.setIfInBounds_toArray, List.set_cons_zero, List.set_cons_succ])
        refine wpAnyH_take (i := 4) (oi := ({ dst := some 30, op := .move (.tmp 10), type := 3, pos := "ref.go:95", after := #[⟨1, .guard⟩], guard := some (1, false) } : Go.Oper)) (v := undef) rfl (by kernel_rfl) (by kernel_rfl) (by kernel_rfl) (fun _ _ _ h => h) (Or.inr ⟨by rfl, rfl⟩) (by assumption) ?_
        (try simp only [Act.put, List.getElem_toArray, List.getElem_cons_zero, List.getElem_cons_succ, List.setIfInBounds_toArray, List.set_cons_zero, List.set_cons_succ])
        refine wpAnyH_take (i := 5) (oi := ({ dst := some 31, op := .indexAddr 27 (.tmp 29) (.tmp 30), type := 0, pos := "ref.go:95", after := #[⟨3, .data⟩, ⟨4, .data⟩, ⟨1, .guard⟩], guard := some (1, false) } : Go.Oper)) (v := undef) rfl (by kernel_rfl) (by kernel_rfl) (by kernel_rfl) (fun _ _ _ h => h) (Or.inr ⟨by rfl, rfl⟩) (by assumption) ?_
        (try simp only [Act.put, List.getElem_toArray, List.getElem_cons_zero, List.getElem_cons_succ, List.setIfInBounds_toArray, List.set_cons_zero, List.set_cons_succ])
        refine wpAnyH_take (i := 6) (oi := ({ dst := some 32, op := .load 2 (.tmp 31), type := 2, pos := "ref.go:95", after := #[⟨5, .data⟩, ⟨1, .guard⟩], guard := some (1, false) } : Go.Oper)) (v := undef) rfl (by kernel_rfl) (by kernel_rfl) (by kernel_rfl) (fun _ _ _ h => h) (Or.inr ⟨by rfl, rfl⟩) (by assumption) ?_
        (try simp only [Act.put, List.getElem_toArray, List.getElem_cons_zero, List.getElem_cons_succ, List.setIfInBounds_toArray, List.set_cons_zero, List.set_cons_succ])
        refine wpAnyH_take (i := 7) (oi := ({ dst := some 33, op := .fieldAddr 24 (.tmp 2) 4, type := 0, pos := "ref.go:95", after := #[⟨1, .guard⟩], guard := some (1, false) } : Go.Oper)) (v := undef) rfl (by kernel_rfl) (by kernel_rfl) (by kernel_rfl) (fun _ _ _ h => h) (Or.inr ⟨by rfl, rfl⟩) (by assumption) ?_
        (try simp only [Act.put, List.getElem_toArray, List.getElem_cons_zero, List.getElem_cons_succ, List.setIfInBounds_toArray, List.set_cons_zero, List.set_cons_succ])
        refine wpAnyH_take (i := 8) (oi := ({ dst := some 34, op := .load 22 (.tmp 33), type := 22, pos := "ref.go:95", after := #[⟨7, .data⟩, ⟨1, .guard⟩], guard := some (1, false) } : Go.Oper)) (v := undef) rfl (by kernel_rfl) (by kernel_rfl) (by kernel_rfl) (fun _ _ _ h => h) (Or.inr ⟨by rfl, rfl⟩) (by assumption) ?_
        (try simp only [Act.put, List.getElem_toArray, List.getElem_cons_zero, List.getElem_cons_succ, List.setIfInBounds_toArray, List.set_cons_zero, List.set_cons_succ])
        refine wpAnyH_take (i := 9) (oi := ({ dst := some 35, op := .move (.tmp 8), type := 3, pos := "ref.go:95", after := #[⟨1, .guard⟩], guard := some (1, false) } : Go.Oper)) (v := undef) rfl (by kernel_rfl) (by kernel_rfl) (by kernel_rfl) (fun _ _ _ h => h) (Or.inr ⟨by rfl, rfl⟩) (by assumption) ?_
        (try simp only [Act.put, List.getElem_toArray, List.getElem_cons_zero, List.getElem_cons_succ, List.setIfInBounds_toArray, List.set_cons_zero, List.set_cons_succ])
        refine wpAnyH_take (i := 10) (oi := ({ dst := some 36, op := .indexAddr 22 (.tmp 34) (.tmp 35), type := 0, pos := "ref.go:95", after := #[⟨8, .data⟩, ⟨9, .data⟩, ⟨1, .guard⟩], guard := some (1, false) } : Go.Oper)) (v := undef) rfl (by kernel_rfl) (by kernel_rfl) (by kernel_rfl) (fun _ _ _ h => h) (Or.inr ⟨by rfl, rfl⟩) (by assumption) ?_
        (try simp only [Act.put, List.getElem_toArray, List.getElem_cons_zero, List.getElem_cons_succ, List.setIfInBounds_toArray, List.set_cons_zero, List.set_cons_succ])
        refine wpAnyH_take (i := 11) (oi := ({ dst := some 37, op := .fieldAddr 40 (.tmp 36) 0, type := 0, pos := "ref.go:95", after := #[⟨10, .data⟩, ⟨1, .guard⟩], guard := some (1, false) } : Go.Oper)) (v := undef) rfl (by kernel_rfl) (by kernel_rfl) (by kernel_rfl) (fun _ _ _ h => h) (Or.inr ⟨by rfl, rfl⟩) (by assumption) ?_
        (try simp only [Act.put, List.getElem_toArray, List.getElem_cons_zero, List.getElem_cons_succ, List.setIfInBounds_toArray, List.set_cons_zero, List.set_cons_succ])
        refine wpAnyH_take (i := 12) (oi := ({ dst := some 38, op := .load 2 (.tmp 37), type := 2, pos := "ref.go:95", after := #[⟨11, .data⟩, ⟨1, .guard⟩], guard := some (1, false) } : Go.Oper)) (v := undef) rfl (by kernel_rfl) (by kernel_rfl) (by kernel_rfl) (fun _ _ _ h => h) (Or.inr ⟨by rfl, rfl⟩) (by assumption) ?_
        (try simp only [Act.put, List.getElem_toArray, List.getElem_cons_zero, List.getElem_cons_succ, List.setIfInBounds_toArray, List.set_cons_zero, List.set_cons_succ])
        refine wpAnyH_take (i := 13) (oi := ({ dst := some 39, op := .binOp .eql 2 (.tmp 32) (.tmp 38) 2, type := 4, pos := "ref.go:95", after := #[⟨6, .data⟩, ⟨12, .data⟩, ⟨1, .guard⟩], guard := some (1, false) } : Go.Oper)) (v := undef) rfl (by kernel_rfl) (by kernel_rfl) (by kernel_rfl) (fun _ _ _ h => h) (Or.inr ⟨by rfl, rfl⟩) (by assumption) ?_
        (try simp only [Act.put, List.getElem_toArray, List.getElem_cons_zero, List.getElem_cons_succ, List.setIfInBounds_toArray, List.set_cons_zero, List.set_cons_succ])
        refine wpAnyH_take (i := 14) (oi := ({ dst := some 40, op := .pick (.tmp 27) (.const (.bool true)) (.tmp 39), type := 4, pos := "ref.go:95", after := #[⟨1, .data⟩, ⟨13, .data⟩], guard := none } : Go.Oper)) (v := ?v187) rfl (by kernel_rfl) (by kernel_rfl) (by kernel_rfl) (fun _ _ _ h => h) (Or.inl ⟨by rfl, ?hy187⟩) (by assumption) ?rest187
        case hy187 => (intro w hSw; (try dsimp only at hSw); go_simp; (try with_reducible rfl))
        (try simp only [Act.put, List.getElem_toArray, List.getElem_cons_zero, List.getElem_cons_succ, List.setIfInBounds_toArray, List.set_cons_zero, List.set_cons_succ])
        refine wpAnyH_take (i := 15) (oi := ({ dst := some 9, op := .assign (.tmp 40), type := 4, pos := "ref.go:95", after := #[⟨14, .data⟩, ⟨1, .chain⟩, ⟨0, .phase⟩, ⟨1, .phase⟩, ⟨2, .phase⟩, ⟨3, .phase⟩, ⟨4, .phase⟩, ⟨5, .phase⟩, ⟨6, .phase⟩, ⟨7, .phase⟩, ⟨8, .phase⟩, ⟨9, .phase⟩, ⟨10, .phase⟩, ⟨11, .phase⟩, ⟨12, .phase⟩, ⟨13, .phase⟩, ⟨14, .phase⟩], guard := none } : Go.Oper)) (v := ?v188) rfl (by kernel_rfl) (by kernel_rfl) (by kernel_rfl) (fun _ _ _ h => h) (Or.inl ⟨by rfl, ?hy188⟩) (by assumption) ?rest188
        case hy188 => (intro w hSw; (try dsimp only at hSw); go_simp; (try with_reducible rfl))
        (try simp only [Act.put, List.getElem_toArray, List.getElem_cons_zero, List.getElem_cons_succ, List.setIfInBounds_toArray, List.set_cons_zero, List.set_cons_succ])
        refine wpAnyH_done (by kernel_rfl) ?_ _
        go_wp2
        go_roundw
        case rel => exact ⟨k + 1, by simp, by rw [DN.out], by omega, (by with_reducible (repeat (first | exact Ext.rfl_ _ | assumption | refine Ext.drew ?_ | refine Ext.drewN ?_ _ | refine Ext.alloc ?_ _ | refine Ext.trans ?_ (by assumption))))⟩
        case measure => simp [intOf]; omega
      have d1 := decide_eq_false dm
      by_cases dz : z = t.num
      · have DN : Hid (decide (t.num ∈ y.drop.take (k + 1)) = true) := Lib.hid (decide_eq_true (by rw [HTK.out]; simp [dz]))
        have dz1 : (z == t.num) = true := by simp [dz]
        rw [d1]
        clear dm dz
        go_wp2
        refine wp_region_held_drew (S := (fun W => (W.cell? ⟨q1, 0, none⟩ = some (.slice (some ⟨b', o', none⟩) y.drop.length dc) ∧ W.cell? ⟨w.heap.size, 4, none⟩ = some (.slice (some ⟨b, o, none⟩) x.ts.length c)) ∧ W.cell? ⟨b, o + i * 5, none⟩ = some (.int .i64 t.num) ∧ W.cell? ⟨b', o' + k, none⟩ = some (.int .i64 z))) (by kernel_rfl) (by (try dsimp only); exact HSK.out _ (by with_reducible (repeat (first | exact Ext.rfl_ _ | assumption | refine Ext.drew ?_ | refine Ext.drewN ?_ _ | refine Ext.alloc ?_ _ | refine Ext.trans ?_ (by assumption))))) (fun hHeld => ?_)
        refine wpAnyH_take (i := 0) (oi := ({ dst := some 26, op := .move (.tmp 9), type := 4, pos := "ref.go:95", after := #[], guard := none } : Go.Oper)) (v := ?v189) rfl (by kernel_rfl) (by kernel_rfl) (by kernel_rfl) (fun _ _ _ h => h) (Or.inl ⟨by rfl, ?hy189⟩) (by assumption) ?rest189
        case hy189 => (intro w hSw; (try dsimp only at hSw); go_simp; (try with_reducible rfl))
        (try simp only [Act.put, List.getElem_toArray, List.getElem_cons_zero, List.getElem_cons_succ, List.setIfInBounds_toArray, List.set_cons_zero, List.set_cons_succ])
        refine wpAnyH_take (i := 1) (oi := ({ dst := some 27, op := .move (.tmp 26), type := 4, pos := "ref.go:95", after := #[⟨0, .data⟩], guard := none } : Go.Oper)) (v := ?v190) rfl (by kernel_rfl) (by kernel_rfl) (by kernel_rfl) (fun _ _ _ h => h) (Or.inl ⟨by rfl, ?hy190⟩) (by assumption) ?rest190
        case hy190 => (intro w hSw; (try dsimp only at hSw); go_simp; (try with_reducible rfl))
        (try simp only [Act.put, List.getElem_toArray, List.getElem_cons_zero, List.getElem_cons_succ, List.setIfInBounds_toArray, List.set_cons_zero, List.set_cons_succ])
        refine wpAnyH_take (i := 2) (oi := ({ dst := some 28, op := .fieldAddr 29 (.tmp 3) 0, type := 0, pos := "ref.go:95", after := #[⟨1, .guard⟩], guard := some (1, false) } : Go.Oper)) (v := ?v191) rfl (by kernel_rfl) (by kernel_rfl) (by kernel_rfl) (fun _ _ _ h => h) (Or.inl ⟨by rfl, ?hy191⟩) (by assumption) ?rest191
        case hy191 => (intro w hSw; (try dsimp only at hSw); go_simp; (try with_reducible rfl))
        (try simp only [Act.put, List.getElem_toArray, List.getElem_cons_zero, List.getElem_cons_succ, List.setIfInBounds_toArray, List.set_cons_zero, List.set_cons_succ])
        refine wpAnyH_take (i := 3) (oi := ({ dst := some 29, op := .load 27 (.tmp 28), type := 27, pos := "ref.go:95", after := #[⟨2, .data⟩, ⟨1, .guard⟩], guard := some (1, false) } : Go.Oper)) (v := ?v192) rfl (by kernel_rfl) (by kernel_rfl) (by kernel_rfl) (fun _ _ _ h => h) (Or.inl ⟨by rfl, ?hy192⟩) (by assumption) ?rest192
        case hy192 => (intro w hSw; (try dsimp only at hSw); go_simp; (try with_reducible rfl))
        (try simp only [Act.put, List.getElem_toArray, List.getElem_cons_zero, List.getElem_cons_succ, List.setIfInBounds_toArray, List.set_cons_zero, List.set_cons_succ])
        refine wpAnyH_take (i := 4) (oi := ({ dst := some 30, op := .move (.tmp 10), type := 3, pos := "ref.go:95", after := #[⟨1, .guard⟩], guard := some (1, false) } : Go.Oper)) (v := ?v193) rfl (by kernel_rfl) (by kernel_rfl) (by kernel_rfl) (fun _ _ _ h => h) (Or.inl ⟨by rfl, ?hy193⟩) (by assumption) ?rest193
        case hy193 => (intro w hSw; (try dsimp only at hSw); go_simp; (try with_reducible rfl))
        (try simp only [Act.put, List.getElem_toArray, List.getElem_cons_zero, List.getElem_cons_succ, List.setIfInBounds_toArray, List.set_cons_zero, List.set_cons_succ])
        refine wpAnyH_take (i := 5) (oi := ({ dst := some 31, op := .indexAddr 27 (.tmp 29) (.tmp 30), type := 0, pos := "ref.go:95", after := #[⟨3, .data⟩, ⟨4, .data⟩, ⟨1, .guard⟩], guard := some (1, false) } : Go.Oper)) (v := ?v194) rfl (by kernel_rfl) (by kernel_rfl) (by kernel_rfl) (fun _ _ _ h => h) (Or.inl ⟨by rfl, ?hy194⟩) (by assumption) ?rest194
        case hy194 => (intro w hSw; (try dsimp only at hSw); go_simp; (try with_reducible rfl))
        (try simp only [Act.put, List.getElem_toArray, List.getElem_cons_zero, List.getElem_cons_succ, List.setIfInBounds_toArray, List.set_cons_zero, List.set_cons_succ])
        refine wpAnyH_take (i := 6) (oi := ({ dst := some 32, op := .load 2 (.tmp 31), type := 2, pos := "ref.go:95", after := #[⟨5, .data⟩, ⟨1, .guard⟩], guard := some (1, false) } : Go.Oper)) (v := ?v195) rfl (by kernel_rfl) (by kernel_rfl) (by kernel_rfl) (fun _ _ _ h => h) (Or.inl ⟨by rfl, ?hy195⟩) (by assumption) ?rest195
        case hy195 => (intro w hSw; (try dsimp only at hSw); go_simp; (try with_reducible rfl))
        (try simp only [Act.put, List.getElem_toArray, List.getElem_cons_zero, List.getElem_cons_succ, List.setIfInBounds_toArray, List.set_cons_zero, List.set_cons_succ])
        refine wpAnyH_take (i := 7) (oi := ({ dst := some 33, op := .fieldAddr 24 (.tmp 2) 4, type := 0, pos := "ref.go:95", after := #[⟨1, .guard⟩], guard := some (1, false) } : Go.Oper)) (v := ?v196) rfl (by kernel_rfl) (by kernel_rfl) (by kernel_rfl) (fun _ _ _ h => h) (Or.inl ⟨by rfl, ?hy196⟩) (by assumption) ?rest196
        case hy196 => (intro w hSw; (try dsimp only at hSw); go_simp; (try with_reducible rfl))
        (try simp only [Act.put, List.getElem_toArray, List.getElem_cons_zero, List.getElem_cons_succ, List.setIfInBounds_toArray, List.set_cons_zero, List.set_cons_succ])
        refine wpAnyH_take (i := 8) (oi := ({ dst := some 34, op := .load 22 (.tmp 33), type := 22, pos := "ref.go:95", after := #[⟨7, .data⟩, ⟨1, .guard⟩], guard := some (1, false) } : Go.Oper)) (v := ?v197) rfl (by kernel_rfl) (by kernel_rfl) (by kernel_rfl) (fun _ _ _ h => h) (Or.inl ⟨by rfl, ?hy197⟩) (by assumption) ?rest197
        case hy197 => (intro w hSw; (try dsimp only at hSw); go_simp; (try with_reducible rfl))
        (try simp only [Act.put, List.getElem_toArray, List.getElem_cons_zero, List.getElem_cons_succ, List.setIfInBounds_toArray, List.set_cons_zero, List.set_cons_succ])
        refine wpAnyH_take (i := 9) (oi := ({ dst := some 35, op := .move (.tmp 8), type := 3, pos := "ref.go:95", after := #[⟨1, .guard⟩], guard := some (1, false) } : Go.Oper)) (v := ?v198) rfl (by kernel_rfl) (by kernel_rfl) (by kernel_rfl) (fun _ _ _ h => h) (Or.inl ⟨by rfl, ?hy198⟩) (by assumption) ?rest198
        case hy198 => (intro w hSw; (try dsimp only at hSw); go_simp; (try with_reducible rfl))
        (try simp only [Act.put, List.getElem_toArray, List.getElem_cons_zero, List.getElem_cons_succ, List.setIfInBounds_toArray, List.set_cons_zero, List.set_cons_succ])
        refine wpAnyH_take (i := 10) (oi := ({ dst := some 36, op := .indexAddr 22 (.tmp 34) (.tmp 35), type := 0, pos := "ref.go:95", after := #[⟨8, .data⟩, ⟨9, .data⟩, ⟨1, .guard⟩], guard := some (1, false) } : Go.Oper)) (v := ?v199) rfl (by kernel_rfl) (by kernel_rfl) (by kernel_rfl) (fun _ _ _ h => h) (Or.inl ⟨by rfl, ?hy199⟩) (by assumption) ?rest199
        case hy199 => (intro w hSw; (try dsimp only at hSw); go_simp; (try with_reducible rfl))
        (try simp only [Act.put, List.getElem_toArray, List.getElem_cons_zero, List.getElem_cons_succ, List.setIfInBounds_toArray, List.set_cons_zero, List.set_cons_succ])
        refine wpAnyH_take (i := 11) (oi := ({ dst := some 37, op := .fieldAddr 40 (.tmp 36) 0, type := 0, pos := "ref.go:95", after := #[⟨10, .data⟩, ⟨1, .guard⟩], guard := some (1, false) } : Go.Oper)) (v := ?v200) rfl (by kernel_rfl) (by kernel_rfl) (by kernel_rfl) (fun _ _ _ h => h) (Or.inl ⟨by rfl, ?hy200⟩) (by assumption) ?rest200
        case hy200 => (intro w hSw; (try dsimp only at hSw); go_simp; (try with_reducible rfl))
        (try simp only [Act.put, List.getElem_toArray, List.getElem_cons_zero, List.getElem_cons_succ, List.setIfInBounds_toArray, List.set_cons_zero, List.set_cons_succ])
        refine wpAnyH_take (i := 12) (oi := ({ dst := some 38, op := .load 2 (.tmp 37), type := 2, pos := "ref.go:95", after := #[⟨11, .data⟩, ⟨1, .guard⟩], guard := some (1, false) } : Go.Oper)) (v := ?v201) rfl (by kernel_rfl) (by kernel_rfl) (by kernel_rfl) (fun _ _ _ h => h) (Or.inl ⟨by rfl, ?hy201⟩) (by assumption) ?rest201
        case hy201 => (intro w hSw; (try dsimp only at hSw); go_simp; (try with_reducible rfl))
        (try simp only [Act.put, List.getElem_toArray, List.getElem_cons_zero, List.getElem_cons_succ, List.setIfInBounds_toArray, List.set_cons_zero, List.set_cons_succ])
        refine wpAnyH_take (i := 13) (oi := ({ dst := some 39, op := .binOp .eql 2 (.tmp 32) (.tmp 38) 2, type := 4, pos := "ref.go:95", after := #[⟨6, .data⟩, ⟨12, .data⟩, ⟨1, .guard⟩], guard := some (1, false) } : Go.Oper)) (v := ?v202) rfl (by kernel_rfl) (by kernel_rfl) (by kernel_rfl) (fun _ _ _ h => h) (Or.inl ⟨by rfl, ?hy202⟩) (by assumption) ?rest202
        case hy202 => (intro w hSw; (try dsimp only at hSw); go_simp; (try with_reducible rfl))
        (try simp only [Act.put, List.getElem_toArray, List.getElem_cons_zero, List.getElem_cons_succ, List.setIfInBounds_toArray, List.set_cons_zero, List.set_cons_succ])
        refine wpAnyH_take (i := 14) (oi := ({ dst := some 40, op := .pick (.tmp 27) (.const (.bool true)) (.tmp 39), type := 4, pos := "ref.go:95", after := #[⟨1, .data⟩, ⟨13, .data⟩], guard := none } : Go.Oper)) (v := ?v203) rfl (by kernel_rfl) (by kernel_rfl) (by kernel_rfl) (fun _ _ _ h => h) (Or.inl ⟨by rfl, ?hy203⟩) (by assumption) ?rest203
        case hy203 => (intro w hSw; (try dsimp only at hSw); go_simp; (try with_reducible rfl))
        (try simp only [Act.put, List.getElem_toArray, List.getElem_cons_zero, List.getElem_cons_succ, List.setIfInBounds_toArray, List.set_cons_zero, List.set_cons_succ])
        refine wpAnyH_take (i := 15) (oi := ({ dst := some 9, op := .assign (.tmp 40), type := 4, pos := "ref.go:95", after := #[⟨14, .data⟩, ⟨1, .chain⟩, ⟨0, .phase⟩, ⟨1, .phase⟩, ⟨2, .phase⟩, ⟨3, .phase⟩, ⟨4, .phase⟩, ⟨5, .phase⟩, ⟨6, .phase⟩, ⟨7, .phase⟩, ⟨8, .phase⟩, ⟨9, .phase⟩, ⟨10, .phase⟩, ⟨11, .phase⟩, ⟨12, .phase⟩, ⟨13, .phase⟩, ⟨14, .phase⟩], guard := none } : Go.Oper)) (v := ?v204) rfl (by kernel_rfl) (by kernel_rfl) (by kernel_rfl) (fun _ _ _ h => h) (Or.inl ⟨by rfl, ?hy204⟩) (by assumption) ?rest204
        case hy204 => (intro w hSw; (try dsimp only at hSw); go_simp; (try with_reducible rfl))
        (try simp only [Act.put, List.getElem_toArray, List.getElem_cons_zero, List.getElem_cons_succ, List.setIfInBounds_toArray, List.set_cons_zero, List.set_cons_succ])
        refine wpAnyH_done (by kernel_rfl) ?_ _
        go_wp2
        go_roundw
        case rel => exact ⟨k + 1, by simp, by rw [DN.out], by omega, (by with_reducible (repeat (first | exact Ext.rfl_ _ | assumption | refine Ext.drew ?_ | refine Ext.drewN ?_ _ | refine Ext.alloc ?_ _ | refine Ext.trans ?_ (by assumption))))⟩
        case measure => simp [intOf]; omega
      · have DN : Hid (decide (t.num ∈ y.drop.take (k + 1)) = false) := Lib.hid (decide_eq_false (by rw [HTK.out]; simp [dm]; exact fun e => dz e.symm))
        have dz1 : (z == t.num) = false := by simp [dz]
        rw [d1]
        clear dm dz
        go_wp2
        refine wp_region_held_drew (S := (fun W => (W.cell? ⟨q1, 0, none⟩ = some (.slice (some ⟨b', o', none⟩) y.drop.length dc) ∧ W.cell? ⟨w.heap.size, 4, none⟩ = some (.slice (some ⟨b, o, none⟩) x.ts.length c)) ∧ W.cell? ⟨b, o + i * 5, none⟩ = some (.int .i64 t.num) ∧ W.cell? ⟨b', o' + k, none⟩ = some (.int .i64 z))) (by kernel_rfl) (by (try dsimp only); exact HSK.out _ (by with_reducible (repeat (first | exact Ext.rfl_ _ | assumption | refine Ext.drew ?_ | refine Ext.drewN ?_ _ | refine Ext.alloc ?_ _ | refine Ext.trans ?_ (by assumption))))) (fun hHeld => ?_)
        refine wpAnyH_take (i := 0) (oi := ({ dst := some 26, op := .move (.tmp 9), type := 4, pos := "ref.go:95", after := #[], guard := none } : Go.Oper)) (v := ?v205) rfl (by kernel_rfl) (by kernel_rfl) (by kernel_rfl) (fun _ _ _ h => h) (Or.inl ⟨by rfl, ?hy205⟩) (by assumption) ?rest205
        case hy205 => (intro w hSw; (try dsimp only at hSw); go_simp; (try with_reducible rfl))
        (try simp only [Act.put, List.getElem_toArray, List.getElem_cons_zero, List.getElem_cons_succ, List.setIfInBounds_toArray, List.set_cons_zero, List.set_cons_succ])
        refine wpAnyH_take (i := 1) (oi := ({ dst := some 27, op := .move (.tmp 26), type := 4, pos := "ref.go:95", after := #[⟨0, .data⟩], guard := none } : Go.Oper)) (v := ?v206) rfl (by kernel_rfl) (by kernel_rfl) (by kernel_rfl) (fun _ _ _ h => h) (Or.inl ⟨by rfl, ?hy206⟩) (by assumption) ?rest206
        case hy206 => (intro w hSw; (try dsimp only at hSw); go_simp; (try with_reducible rfl))
        (try simp only [Act.put, List.getElem_toArray, List.getElem_cons_zero, List.getElem_cons_succ, List.setIfInBounds_toArray, List.set_cons_zero, List.set_cons_succ])
        refine wpAnyH_take (i := 2) (oi := ({ dst := some 28, op := .fieldAddr 29 (.tmp 3) 0, type := 0, pos := "ref.go:95", after := #[⟨1, .guard⟩], guard := some (1, false) } : Go.Oper)) (v := ?v207) rfl (by kernel_rfl) (by kernel_rfl) (by kernel_rfl) (fun _ _ _ h => h) (Or.inl ⟨by rfl, ?hy207⟩) (by assumption) ?rest207
        case hy207 => (intro w hSw; (try dsimp only at hSw); go_simp; (try with_reducible rfl))
        (try simp only [Act.put, List.getElem_toArray, List.getElem_cons_zero, List.getElem_cons_succ, List.setIfInBounds_toArray, List.set_cons_zero, List.set_cons_succ])
        refine wpAnyH_take (i := 3) (oi := ({ dst := some 29, op := .load 27 (.tmp 28), type := 27, pos := "ref.go:95", after := #[⟨2, .data⟩, ⟨1, .guard⟩], guard := some (1, false) } : Go.Oper)) (v := ?v208) rfl (by kernel_rfl) (by kernel_rfl) (by kernel_rfl) (fun _ _ _ h => h) (Or.inl ⟨by rfl, ?hy208⟩) (by assumption) ?rest208
        case hy208 => (intro w hSw; (try dsimp only at hSw); go_simp; (try with_reducible rfl))
        (try simp only [Act.put, List.getElem_toArray, List.getElem_cons_zero, List.getElem_cons_succ, List.setIfInBounds_toArray, List.set_cons_zero, List.set_cons_succ])
        refine wpAnyH_take (i := 4) (oi := ({ dst := some 30, op := .move (.tmp 10), type := 3, pos := "ref.go:95", after := #[⟨1, .guard⟩], guard := some (1, false) } : Go.Oper)) (v := ?v209) rfl (by kernel_rfl) (by kernel_rfl) (by kernel_rfl) (fun _ _ _ h => h) (Or.inl ⟨by rfl, ?hy209⟩) (by assumption) ?rest209
        case hy209 => (intro w hSw; (try dsimp only at hSw); go_simp; (try with_reducible rfl))
        (try simp only [Act.put, List.getElem_toArray, List.getElem_cons_zero, List.getElem_cons_succ, List.setIfInBounds_toArray, List.set_cons_zero, List.set_cons_succ])
        refine wpAnyH_take (i := 5) (oi := ({ dst := some 31, op := .indexAddr 27 (.tmp 29) (.tmp 30), type := 0, pos := "ref.go:95", after := #[⟨3, .data⟩, ⟨4, .data⟩, ⟨1, .guard⟩], guard := some (1, false) } : Go.Oper)) (v := ?v210) rfl (by kernel_rfl) (by kernel_rfl) (by kernel_rfl) (fun _ _ _ h => h) (Or.inl ⟨by rfl, ?hy210⟩) (by assumption) ?rest210
        case hy210 => (intro w hSw; (try dsimp only at hSw); go_simp; (try with_reducible rfl))
        (try simp only [Act.put, List.getElem_toArray, List.getElem_cons_zero, List.getElem_cons_succ, List.setIfInBounds_toArray, List.set_cons_zero, List.set_cons_succ])
        refine wpAnyH_take (i := 6) (oi := ({ dst := some 32, op := .load 2 (.tmp 31), type := 2, pos := "ref.go:95", after := #[⟨5, .data⟩, ⟨1, .guard⟩], guard := some (1, false) } : Go.Oper)) (v := ?v211) rfl (by kernel_rfl) (by kernel_rfl) (by kernel_rfl) (fun _ _ _ h => h) (Or.inl ⟨by rfl, ?hy211⟩) (by assumption) ?rest211
        case hy211 => (intro w hSw; (try dsimp only at hSw); go_simp; (try with_reducible rfl))
        (try simp only [Act.put, List.getElem_toArray, List.getElem_cons_zero, List.getElem_cons_succ, List.setIfInBounds_toArray, List.set_cons_zero, List.set_cons_succ])
        refine wpAnyH_take (i := 7) (oi := ({ dst := some 33, op := .fieldAddr 24 (.tmp 2) 4, type := 0, pos := "ref.go:95", after := #[⟨1, .guard⟩], guard := some (1, false) } : Go.Oper)) (v := ?v212) rfl (by kernel_rfl) (by kernel_rfl) (by kernel_rfl) (fun _ _ _ h => h) (Or.inl ⟨by rfl, ?hy212⟩) (by assumption) ?rest212
        case hy212 => (intro w hSw; (try dsimp only at hSw); go_simp; (try with_reducible rfl))
        (try simp only [Act.put, List.getElem_toArray, List.getElem_cons_zero, List.getElem_cons_succ, List.setIfInBounds_toArray, List.set_cons_zero, List.set_cons_succ])
        refine wpAnyH_take (i := 8) (oi := ({ dst := some 34, op := .load 22 (.tmp 33), type := 22, pos := "ref.go:95", after := #[⟨7, .data⟩, ⟨1, .guard⟩], guard := some (1, false) } : Go.Oper)) (v := ?v213) rfl (by kernel_rfl) (by kernel_rfl) (by kernel_rfl) (fun _ _ _ h => h) (Or.inl ⟨by rfl, ?hy213⟩) (by assumption) ?rest213
        case hy213 => (intro w hSw; (try dsimp only at hSw); go_simp; (try with_reducible rfl))
        (try simp only [Act.put, List.getElem_toArray, List.getElem_cons_zero, List.getElem_cons_succ, List.setIfInBounds_toArray, List.set_cons_zero, List.set_cons_succ])
        refine wpAnyH_take (i := 9) (oi := ({ dst := some 35, op := .move (.tmp 8), type := 3, pos := "ref.go:95", after := #[⟨1, .guard⟩], guard := some (1, false) } : Go.Oper)) (v := ?v214) rfl (by kernel_rfl) (by kernel_rfl) (by kernel_rfl) (fun _ _ _ h => h) (Or.inl ⟨by rfl, ?hy214⟩) (by assumption) ?rest214
        case hy214 => (intro w hSw; (try dsimp only at hSw); go_simp; (try with_reducible rfl))
        (try simp only [Act.put, List.getElem_toArray, List.getElem_cons_zero, List.getElem_cons_succ, List.setIfInBounds_toArray, List.set_cons_zero, List.set_cons_succ])
        refine wpAnyH_take (i := 10) (oi := ({ dst := some 36, op := .indexAddr 22 (.tmp 34) (.tmp 35), type := 0, pos := "ref.go:95", after := #[⟨8, .data⟩, ⟨9, .data⟩, ⟨1, .guard⟩], guard := some (1, false) } : Go.Oper)) (v := ?v215) rfl (by kernel_rfl) (by kernel_rfl) (by kernel_rfl) (fun _ _ _ h => h) (Or.inl ⟨by rfl, ?hy215⟩) (by assumption) ?rest215
        case hy215 => (intro w hSw; (try dsimp only at hSw); go_simp; (try with_reducible rfl))
        (try simp only [Act.put, List.getElem_toArray, List.getElem_cons_zero, List.getElem_cons_succ, List.setIfInBounds_toArray, List.set_cons_zero, List.set_cons_succ])
        refine wpAnyH_take (i := 11) (oi := ({ dst := some 37, op := .fieldAddr 40 (.tmp 36) 0, type := 0, pos := "ref.go:95", after := #[⟨10, .data⟩, ⟨1, .guard⟩], guard := some (1, false) } : Go.Oper)) (v := ?v216) rfl (by kernel_rfl) (by kernel_rfl) (by kernel_rfl) (fun _ _ _ h => h) (Or.inl ⟨by rfl, ?hy216⟩) (by assumption) ?rest216
        case hy216 => (intro w hSw; (try dsimp only at hSw); go_simp; (try with_reducible rfl))
        (try simp only [Act.put, List.getElem_toArray, List.getElem_cons_zero, List.getElem_cons_succ, List.setIfInBounds_toArray, List.set_cons_zero, List.set_cons_succ])
        refine wpAnyH_take (i := 12) (oi := ({ dst := some 38, op := .load 2 (.tmp 37), type := 2, pos := "ref.go:95", after := #[⟨11, .data⟩, ⟨1, .guard⟩], guard := some (1, false) } : Go.Oper)) (v := ?v217) rfl (by kernel_rfl) (by kernel_rfl) (by kernel_rfl) (fun _ _ _ h => h) (Or.inl ⟨by rfl, ?hy217⟩) (by assumption) ?rest217
        case hy217 => (intro w hSw; (try dsimp only at hSw); go_simp; (try with_reducible rfl))
        (try simp only [Act.put, List.getElem_toArray, List.getElem_cons_zero, List.getElem_cons_succ, List.setIfInBounds_toArray, List.set_cons_zero, List.set_cons_succ])
        refine wpAnyH_take (i := 13) (oi := ({ dst := some 39, op := .binOp .eql 2 (.tmp 32) (.tmp 38) 2, type := 4, pos := "ref.go:95", after := #[⟨6, .data⟩, ⟨12, .data⟩, ⟨1, .guard⟩], guard := some (1, false) } : Go.Oper)) (v := ?v218) rfl (by kernel_rfl) (by kernel_rfl) (by kernel_rfl) (fun _ _ _ h => h) (Or.inl ⟨by rfl, ?hy218⟩) (by assumption) ?rest218
        case hy218 => (intro w hSw; (try dsimp only at hSw); go_simp; (try with_reducible rfl))
        (try simp only [Act.put, List.getElem_toArray, List.getElem_cons_zero, List.getElem_cons_succ, List.setIfInBounds_toArray, List.set_cons_zero, List.set_cons_succ])
        refine wpAnyH_take (i := 14) (oi := ({ dst := some 40, op := .pick (.tmp 27) (.const (.bool true)) (.tmp 39), type := 4, pos := "ref.go:95", after := #[⟨1, .data⟩, ⟨13, .data⟩], guard := none } : Go.Oper)) (v := ?v219) rfl (by kernel_rfl) (by kernel_rfl) (by kernel_rfl) (fun _ _ _ h => h) (Or.inl ⟨by rfl, ?hy219⟩) (by assumption) ?rest219
        case hy219 => (intro w hSw; (try dsimp only at hSw); go_simp; (try with_reducible rfl))
        (try simp only [Act.put, List.getElem_toArray, List.getElem_cons_zero, List.getElem_cons_succ, List.setIfInBounds_toArray, List.set_cons_zero, List.set_cons_succ])
        refine wpAnyH_take (i := 15) (oi := ({ dst := some 9, op := .assign (.tmp 40), type := 4, pos := "ref.go:95", after := #[⟨14, .data⟩, ⟨1, .chain⟩, ⟨0, .phase⟩, ⟨1, .phase⟩, ⟨2, .phase⟩, ⟨3, .phase⟩, ⟨4, .phase⟩, ⟨5, .phase⟩, ⟨6, .phase⟩, ⟨7, .phase⟩, ⟨8, .phase⟩, ⟨9, .phase⟩, ⟨10, .phase⟩, ⟨11, .phase⟩, ⟨12, .phase⟩, ⟨13, .phase⟩, ⟨14, .phase⟩], guard := none } : Go.Oper)) (v := ?v220) rfl (by kernel_rfl) (by kernel_rfl) (by kernel_rfl) (fun _ _ _ h => h) (Or.inl ⟨by rfl, ?hy220⟩) (by assumption) ?rest220
        case hy220 => (intro w hSw; (try dsimp only at hSw); go_simp; (try with_reducible rfl))
        (try simp only [Act.put, List.getElem_toArray, List.getElem_cons_zero, List.getElem_cons_succ, List.setIfInBounds_toArray, List.set_cons_zero, List.set_cons_succ])
        refine wpAnyH_done (by kernel_rfl) ?_ _
        go_wp2
        go_roundw
        case rel => exact ⟨k + 1, by simp, by rw [DN.out], by omega, (by with_reducible (repeat (first | exact Ext.rfl_ _ | assumption | refine Ext.drew ?_ | refine Ext.drewN ?_ _ | refine Ext.alloc ?_ _ | refine Ext.trans ?_ (by assumption))))⟩
        case measure => simp [intOf]; omega

end Go.Proofs.Yteooaplimiifiaa
