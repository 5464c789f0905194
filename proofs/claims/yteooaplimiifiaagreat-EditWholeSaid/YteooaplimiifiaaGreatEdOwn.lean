/- edit.own: tables in memory of the call's own. Conditions: the list reads. -/
import Derived.Test.YteooaplimiifiaaGreatOwnT
import Derived.BigQuiet
import Derived.RegionTactic
namespace Go.Proofs.YteooaplimiifiaaGreat
set_option linter.unusedSimpArgs false
set_option linter.unusedVariables false
set_option maxRecDepth 100000
open Go.RowKit

theorem Apt.setCell {w : World} {base : Nat} {A : Option Addr} {n : Nat} (h : Apt w base A n) (p : Addr) (u : Value) : Apt (w.setCell p u) base A n := fun hn a ha => by
  rcases h hn a ha with h | ⟨cs, fr, h⟩
  · exact .inl h
  · right
    by_cases e : a.block = p.block
    · refine ⟨if p.spot.isSome then cs else cs.setIfInBounds p.off u, fr, ?_⟩
      simp only [World.setCell, Array.getElem?_modify]
      rw [if_pos e.symm, h]
      rfl
    · exact ⟨cs, fr, (Below.heap_setCell w p u _ e).trans h⟩

theorem CopyB.own {w w' : World} {v' : Value} {x : Bs} (h : CopyB w w' v' x) : OwnB w' w.heap.size v' x := by
  obtain ⟨_, _, rfl, h, _⟩ := h
  exact h

/-- The same row from an elder base on: its entries' slices lie in blocks of bytes. -/
theorem OwnT.lift {w : World} {base base' : Nat} {v : Value} {xs : List Tab} (h0 : OwnT w 0 v xs) (h : OwnT w base' v xs) (hb : base ≤ base') : OwnT w base v xs := by
  have hlt := h.lt
  obtain ⟨hs, hl, ho, hr⟩ := h0
  refine ⟨hs, hl, ⟨ho.1, ?_⟩, fun k h1 h2 => ⟨(hr k h1 h2).1, (hr k h1 h2).2.1.mono (Nat.zero_le _), (hr k h1 h2).2.2.mono (Nat.zero_le _)⟩⟩
  rcases ho.2 with h | ⟨g, cap, cur, rfl, _, h⟩
  · exact .inl h
  · exact .inr ⟨g, cap, cur, rfl, Nat.le_trans hb (hlt g rfl).1, h⟩
/-- A row of the call's own, read. -/
theorem OwnT.rda {w : World} {base : Nat} {A : Option Addr} {n c : Nat} {xs : List Tab} (h : OwnT w base (.slice A n c) xs) (hB : xs.length ≤ B47) : RdTa w base A n xs := by
  obtain ⟨hs, hl, ho, hr⟩ := h
  refine ⟨hs, hl, ?_, ?_, fun hn => ?_, hr⟩
  · rcases ho.2 with ⟨e, h0⟩ | ⟨g, cap, cur, e, _⟩ <;> (injection e with _ e2 _; omega)
  · rcases ho.2 with ⟨e, h0⟩ | ⟨g, cap, cur, e, _⟩ <;> (injection e with _ e2 _; omega)
  · rcases ho.2 with ⟨e, h0⟩ | ⟨g, cap, cur, e, _⟩
    · injection e with _ e2 _; omega
    · injection e with e1 e2 e3
      subst e1 e2 e3
      refine ⟨g, 0, rfl, fun j u hu => ?_⟩
      rw [Nat.zero_add]
      have hj : j < xs.length * 5 := by
        have := (List.getElem?_eq_some_iff.1 hu).1
        rwa [rowT_length hl] at this
      rw [← hu]
      exact ho.cellAt j hj

/-- 'append(out, l...)' of tables, from two bases on. -/
theorem wp_appT2 {ops : Array Oper} {rest : List Oper} {o : Oper} {a : Act} {w : World} {Q : Exit → Act → World → Prop} (hgd : o.guard = none) (s x : Operand)
    (ho : o.op = .call { callee := .builtin .append, args := #[s, x], argTypes := #[22, 22] })
    (base : Nat) (v : Value) (xs : List Tab) (hs : a.eval s = v) (hown : OwnT w base v xs) (hown0 : OwnT w 0 v xs) (A : Option Addr) (m c : Nat) (ys : List Tab) (hx : a.eval x = .slice A m c) (hr : RdTa w base A m ys) (hr0 : RdTa w 0 A m ys)
    (hsz : xs.length + ys.length ≤ B40) (hbase : base ≤ w.heap.size)
    (h : ∀ v' w', OwnT w' base v' (xs ++ ys) → OwnT w' 0 v' (xs ++ ys) → w.grownBy w' v.ownBlock → wpList Tryz.prog ops Q rest (a.put o.dst v') w') : wpList Tryz.prog ops Q (o :: rest) a w := by
  refine wpList_plain hgd fun K hK => ?_
  obtain ⟨v', w', hrun, h1, h2, h3⟩ := run_appT w o.type base v xs hown A m c ys hr hsz hbase
  obtain ⟨v2, w2, hrun2, h4, _, _⟩ := run_appT w o.type 0 v xs hown0 A m c ys hr0 hsz (Nat.zero_le _)
  rw [hrun] at hrun2
  injection hrun2 with e1 e2
  subst e1 e2
  unfold Oper.wp
  simp [execOp, ho, resolve, invoke, builtin, hs, hx, hrun, Result.andThen]
  exact hK _ _ (h v' w' h1 h4 h2)

set_option maxRecDepth 100000 in
set_option maxHeartbeats 8000000 in
theorem own_any (A : Option Addr) (n c : Nat) (ts : List Tab) (w : World) (hl : RdLT w A n ts) (hn : n ≤ 1000000) :
    Calls Tryz.prog 14 #[.slice A n c] w fun e w' => ∃ v', e = .returned v' ∧ OwnT w' w.heap.size v' ts ∧ OwnT w' 0 v' ts ∧ Ext w w' := by
  have HL := Lib.hid hl
  clear hl
  go_enter Tryz.func14, Tryz.ntmps14
  go_wp2
  go_loopw [3, 8] (fun s i wr => ∃ k : Nat, i = .int .i64 k ∧ k ≤ n ∧ Ext w wr ∧ OwnT wr w.heap.size s (ts.take k) ∧ OwnT wr 0 s (ts.take k)) (fun _ i _ => n - (intOf i).toNat)
  case atStart => exact ⟨0, rfl, Nat.zero_le _, Ext.rfl_ _, by simpa using OwnT.nil _ _, by simpa using OwnT.nil _ _⟩
  case round =>
    obtain ⟨k, rfl, hk, hE, hO, hO0⟩ := hrel
    have HO := Lib.hid hO
    have HO0 := Lib.hid hO0
    clear hO hO0
    by_cases cc : (k : Int) < (n : Int)
    rotate_left
    · have HR := Lib.hid (show OwnT wr w.heap.size u3 ts by
        have e := HO.out
        rwa [List.take_of_length_le (by rw [HL.out.1]; omega)] at e)
      have HR0 := Lib.hid (show OwnT wr 0 u3 ts by
        have e := HO0.out
        rwa [List.take_of_length_le (by rw [HL.out.1]; omega)] at e)
      go_wp2
      go_ret
      exact ⟨_, rfl, HR.out, HR0.out, hE⟩
    obtain ⟨b, o, A1, n1, c1, A2, n2, c2, t, rfl, ht, ⟨q0, q1, q2, q3, q4⟩, hr⟩ := (HL.out.ext hE).at_ k (by omega)
    have HT0 := Lib.hid ht
    have HBT := Lib.hid (heap_alloc_new wr (.cells #[.int .i64 t.num, .int .i64 t.lvl, .slice A1 n1 c1, .slice A2 n2 c2, .int .i64 t.size] 42))
    obtain ⟨hx1, hx2, hc1, hn1, hc2, hn2, hI⟩ : Rd wr A1 n1 t.fst ∧ Rd wr A2 n2 t.lst ∧ n1 ≤ c1 ∧ n1 ≤ B47 ∧ n2 ≤ c2 ∧ n2 ≤ B47 ∧ I64 t.num ∧ I64 t.lvl ∧ I64 t.size := by
      obtain ⟨_, _, _, _, _, _, e, h⟩ := hr
      cases e
      exact h
    have HX := Lib.hid hx1
    have HX2 := Lib.hid hx2
    have HI := Lib.hid hI
    have e1 := Lib.hid hx1.1
    have e2 := Lib.hid hx2.1
    have hs0 : w.heap.size ≤ wr.heap.size := hE.size
    clear hr ht hx1 hx2 hI
    go_wp2
    go_region_with (first
      | (go_at_call_of 43 (Value.slice A1 n1 c1); refine (bclone_any A1 n1 c1 t.fst _ (HX.out.ext (by with_reducible (repeat (first | exact Ext.rfl_ _ | assumption | refine Ext.drew ?_ | refine Ext.drewN ?_ _ | refine Ext.alloc ?_ _ | refine Ext.trans ?_ (by assumption))))) hn1).mono ?_; rintro e w1 ⟨v1, rfl, hv1, _, hw1⟩; have ho1 := CopyB.own hv1; obtain ⟨B1, d1, rfl, hr1, hd1, hi1⟩ := hv1.rd; have HR1 := Lib.hid hr1; have HA1 := Lib.hid (Apt.own (base := 0) ho1); obtain ⟨z0, z1, z2, z3, z4, f0, f1, f2, f3, f4⟩ := box5 HBT.out (w' := w1) (by with_reducible (repeat (first | exact Ext.rfl_ _ | assumption | refine Ext.drew ?_ | refine Ext.drewN ?_ _ | refine Ext.alloc ?_ _ | refine Ext.trans ?_ (by assumption)))); clear hv1 hr1 ho1)
      | (go_at_call_of 43 (Value.slice A2 n2 c2); refine (bclone_any A2 n2 c2 t.lst _ (HX2.out.ext (by with_reducible (repeat (first | exact Ext.rfl_ _ | assumption | refine Ext.drew ?_ | refine Ext.drewN ?_ _ | refine Ext.alloc ?_ _ | refine Ext.trans ?_ (by assumption))))) hn2).mono ?_; rintro e w2 ⟨v2, rfl, hv2, _, hw2⟩; have ho2 := CopyB.own hv2; obtain ⟨B2, d2, rfl, hr2, hd2, hi2⟩ := hv2.rd; have HR2 := Lib.hid hr2; have HA2 := Lib.hid (Apt.own (base := 0) ho2); obtain ⟨z0, z1, z2, z3, z4, f0, f1, f2, f3, f4⟩ := box5 HBT.out (w' := w2) (by with_reducible (repeat (first | exact Ext.rfl_ _ | assumption | refine Ext.drew ?_ | refine Ext.drewN ?_ _ | refine Ext.alloc ?_ _ | refine Ext.trans ?_ (by assumption)))); clear hv2 hr2 ho2))
    all_goals
      have K1 : Hid (Hi (wr.heap.size + 1) B1 t.fst.length) := Lib.hid (hi1.mono (by simp))
      have K2 : Hid (Hi (wr.heap.size + 1) B2 t.lst.length) := Lib.hid (hi2.mono (by have := hw1.size; (try simp at this); omega))
      have X1 : Hid (Ext wr w1) := Lib.hid (Ext.trans (Ext.drew (Ext.alloc (Ext.rfl_ wr) _)) hw1)
      have lt2 : wr.heap.size < w2.heap.size := cell_lt z0
      obtain ⟨W3, hW3⟩ : ∃ W3, W3 = (w2.setCell ⟨wr.heap.size, 2, none⟩ (.slice B1 t.fst.length d1)).setCell ⟨wr.heap.size, 3, none⟩ (.slice B2 t.lst.length d2) := ⟨_, rfl⟩
      have hsz3 : W3.heap.size = w2.heap.size := by rw [hW3]; simp [World.setCell]
      have X3 : Hid (Ext wr W3) := Lib.hid (by rw [hW3]; exact ((X1.out.trans hw2).setCell (Nat.le_refl _) _).setCell (Nat.le_refl _) _)
      have HE30 : Hid (ElT W3 0 ⟨B1, t.fst.length, d1, B2, t.lst.length, d2⟩ t) := Lib.hid (by
        refine ⟨⟨B1, t.fst.length, d1, B2, t.lst.length, d2, rfl, ?_, ?_, hd1, by rw [e1.out]; exact hn1, hd2, by rw [e2.out]; exact hn2, HI.out⟩, ?_, ?_⟩
        · rw [hW3]; exact Rd.setCell (Rd.setCell (HR1.out.ext hw2) K1.out (by simp) _) K1.out (by simp) _
        · rw [hW3]; exact Rd.setCell (Rd.setCell HR2.out K2.out (by simp) _) K2.out (by simp) _
        · rw [hW3]; exact Apt.setCell (Apt.setCell (HA1.out.ext hw2) _ _) _ _
        · rw [hW3]; exact Apt.setCell (Apt.setCell HA2.out _ _) _ _)
      have HE3 : Hid (ElT W3 w.heap.size ⟨B1, t.fst.length, d1, B2, t.lst.length, d2⟩ t) := Lib.hid ⟨HE30.out.1, HE30.out.2.1.mono (Nat.zero_le _), HE30.out.2.2.mono (Nat.zero_le _)⟩
      have HO3 := Lib.hid (HO.out.ext X3.out)
      have HO30 := Lib.hid (HO0.out.ext X3.out)
      have hRA := RdTa.one 42 HE3.out
      rw [hsz3] at hRA
      have HRA := Lib.hid hRA
      have hRA0 := RdTa.one 42 HE30.out
      rw [hsz3] at hRA0
      have HRA0 := Lib.hid hRA0
      have hk1 : (ts.take k).length = k := by rw [List.length_take, HL.out.1]; omega
      have hsw : w.heap.size ≤ w2.heap.size := by omega
      clear hi1 hi2 hRA hRA0
      subst hW3
      go_wp2_with (at_builtin; refine wp_appT2 rfl _ _ rfl w.heap.size u3 (ts.take k) rfl (HO3.out.ext (by with_reducible (repeat (first | exact Ext.rfl_ _ | assumption | refine Ext.drew ?_ | refine Ext.drewN ?_ _ | refine Ext.alloc ?_ _ | refine Ext.trans ?_ (by assumption))))) (HO30.out.ext (by with_reducible (repeat (first | exact Ext.rfl_ _ | assumption | refine Ext.drew ?_ | refine Ext.drewN ?_ _ | refine Ext.alloc ?_ _ | refine Ext.trans ?_ (by assumption))))) (some ⟨w2.heap.size, 0, none⟩) 1 1 [t] rfl HRA.out HRA0.out (by rw [hk1]; unfold B40; simp; omega) (by simp; omega) ?_; intro v4 w4 h4 h40 g4; have H4 := Lib.hid h4; have H40 := Lib.hid h40; have X4 : Hid (Ext w w4) := Lib.hid (Ext.growT (hE.trans (Ext.alloc X3.out _)) g4 (HO3.out.ext (by with_reducible (repeat (first | exact Ext.rfl_ _ | assumption | refine Ext.drew ?_ | refine Ext.drewN ?_ _ | refine Ext.alloc ?_ _ | refine Ext.trans ?_ (by assumption))))) (Nat.le_refl _)); clear h4 h40 g4)
      go_roundw
      case rel => exact ⟨k + 1, by simp, by omega, X4.out, by
        have e : ts.take (k + 1) = ts.take k ++ [t] := by rw [List.take_add_one, HT0.out]; rfl
        rw [e]
        exact ⟨H4.out, H40.out⟩⟩
      case measure => simp [intOf]; omega

end Go.Proofs.YteooaplimiifiaaGreat
