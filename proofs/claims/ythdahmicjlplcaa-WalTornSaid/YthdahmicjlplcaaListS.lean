/- Contract of the reference's Lists. Conditions: the slice reads. -/
import Derived.Test.YthdahmicjlplcaaListR
import Derived.Test.YthdahmicjlplcaaRefRM
namespace Go.Proofs.Ythdahmicjlplcaa
set_option linter.unusedSimpArgs false
set_option linter.unusedVariables false
open Go.RowKit

theorem Rdr1.grown {L : Nat} {w w' : World} {g : Nat} {x : Bs} {row : Option Nat} (h : Rdr1 L w g x) (hg : w.grownBy w' row) (hr : ∀ k, row = some k → L ≤ k ∧ ∃ cs fr, w.heap[k]? = some (.cells cs 47 fr)) : Rdr1 L w' g x := by
  obtain ⟨A, n, c, h1, ⟨h2, hlo⟩, h4⟩ := h
  have hgk : w'.heap[g]? = _ := (hg.block g (Array.getElem?_eq_some_iff.1 h1).1 (fun e => by obtain ⟨_, cs', fr', h5⟩ := hr g e.symm; rw [h1] at h5; simp at h5)).trans h1
  refine ⟨A, n, c, hgk, ⟨⟨h2.1, fun hn => ?_⟩, hlo⟩, h4⟩
  obtain ⟨b', o', e, hc⟩ := h2.2 hn
  have hb := hlo hn _ e
  refine ⟨b', o', e, fun j hj => ?_⟩
  have := hc j hj
  unfold World.cell? at *
  rw [hg.block b' (cell_lt (hc j hj)) (fun e => by have := (hr b' e.symm).1; simp at hb; omega)]; exact this
theorem OwnL.chg1 {L : Nat} {w w' : World} {g base : Nat} {v : Value} {xs : List Ent} {y : Bs} (h : OwnL w base v xs) (hr : Rdr1 L w g y) (hc : Chg g w w') : OwnL w' base v xs := by
  obtain ⟨A, n, c, hg, _⟩ := hr
  exact h.chgN hg (by decide) one_no (h.ne hg (by decide)) hc

theorem OwnF.chg1 {L : Nat} {w w' : World} {g base : Nat} {v : Value} {xs : List Ent} {y : Bs} (h : OwnF w base v xs) (hr : Rdr1 L w g y) (hc : Chg g w w') : OwnF w' base v xs := by
  obtain ⟨A, n, c, hg, _⟩ := hr
  exact h.chgN hg (by decide) one_no (h.ne hg (by decide)) hc

set_option maxRecDepth 100000 in
set_option maxHeartbeats 4000000 in
theorem rlists_any (A : Option Addr) (n c : Nat) (x : Bs) (w : World) (hx : Rd w A n x) (hnc : n ≤ c) (hn : n ≤ B40) :
    Calls Try.prog 80 #[.slice A n c] w fun e w' => ∃ v' b0, e = .returned (.tuple #[v', .int .i64 (rdLN x)]) ∧ w.heap.size ≤ b0 ∧ OwnF w' b0 v' (rdL x) ∧ Ext w w' := by
  have hr0 : Rdr1 w.heap.size (w.alloc (.cells #[.slice A n c] 106)) w.heap.size x := ⟨A, n, c, heap_alloc_new w _, ⟨hx.ext (by with_reducible (repeat (first | exact Ext.rfl_ _ | assumption | refine Ext.drew ?_ | refine Ext.drewN ?_ _ | refine Ext.alloc ?_ _ | refine Ext.trans ?_ (by assumption)))), Lo.of hx (Nat.le_refl _)⟩, hnc, hn⟩
  have HR0 := Lib.hid hr0
  clear hx hr0 hn
  have fin : ∀ (w' : World), Ext w w' → readL x = none → (∃ v' b0, Ending.returned (.tuple #[.slice none 0 0, .int .i64 4]) = .returned (.tuple #[v', .int .i64 (rdLN x)]) ∧ w.heap.size ≤ b0 ∧ OwnF w' b0 v' (rdL x) ∧ Ext w w') := fun w' he hb =>
    ⟨_, w.heap.size, by rw [(rdL_bad hb).2], Nat.le_refl _, by rw [(rdL_bad hb).1]; exact OwnF.nil _ _, he⟩
  have FIN := Lib.hid fin
  clear fin
  cases hN : getN x with
  | none =>
    have HN := Lib.hid hN
    have HB := Lib.hid (readL_none (getL_none hN))
    clear hN
    go_enter Try.func80, Try.ntmps80
    go_wp2_with fail
    refine (r1num_bad w.heap.size x _ HR0.out HN.out).mono ?_
    rintro e w1 ⟨rfl, rfl⟩
    go_wp2
    go_ret2
    exact FIN.out _ (by with_reducible (repeat (first | exact Ext.rfl_ _ | assumption | refine Ext.drew ?_ | refine Ext.drewN ?_ _ | refine Ext.alloc ?_ _ | refine Ext.trans ?_ (by assumption)))) HB.out
  | some p =>
    obtain ⟨m, r0⟩ := p
    have hm64 := getN_lt hN
    have HN := Lib.hid hN
    by_cases hmn : (65536 : Int) < (m : Int)
    · have HB := Lib.hid (readL_none (getL_long hN (by omega)))
      clear hN
      go_enter Try.func80, Try.ntmps80
      go_wp2_with fail
      refine (r1num_ok w.heap.size x r0 m _ HR0.out HN.out).mono ?_
      rintro e w1 ⟨rfl, hr1, hch1⟩
      have he : Ext w w1 := (Ext.alloc (Ext.rfl_ w) _).chg hch1 (Nat.le_refl _)
      have HE := Lib.hid he
      clear hr1 hch1 he
      go_wp2
      go_ret2
      exact FIN.out _ HE.out HB.out
    · have HGL := Lib.hid (getL_some hN (by omega))
      have hwn : IntKind.i64.wrap (m : Int) = (m : Int) := by rw [IntKind.wrap_i64]; omega
      clear hN
      go_enter Try.func80, Try.ntmps80
      go_wp2_with fail
      refine (r1num_ok w.heap.size x r0 m _ HR0.out HN.out).mono ?_
      rintro e w1 ⟨rfl, hr1, hch1⟩
      have HE1 := Lib.hid (Ext.chg (Ext.alloc (Ext.rfl_ w) (.cells #[.slice A n c] 106)) hch1 (Nat.le_refl _))
      have HR1 := Lib.hid hr1
      clear hr1 hch1
      go_wp2
      go_loopw [7, 8] (fun v i wr => ∃ k es r, i = .int .i64 ((k : Nat) : Int) ∧ k ≤ m ∧ Hid (es.length = k) ∧ Hid (OwnF wr w.heap.size v es) ∧ Hid (Rdr1 w.heap.size wr w.heap.size r) ∧ Hid (Ext w wr) ∧ Hid (GE m r0 es r)) (fun _ i _ => m - (intOf i).toNat)
      case atStart => exact ⟨0, [], r0, rfl, Nat.zero_le _, Lib.hid rfl, Lib.hid (OwnF.nil _ _), HR1, HE1, Lib.hid (GE.start _ _)⟩
      case round =>
        obtain ⟨k, es, r, rfl, hk, hl, ho, hr, hE, hG⟩ := hrel
        by_cases c1 : (k : Int) < (m : Int)
        · have HLT := Lib.hid (show es.length < m from by rw [hl.out]; omega)
          go_wp2_with fail
          refine (rb1_any w.heap.size 65636 r _ hr.out (by decide)).mono ?_
          rintro e w2 ⟨A2, n2, c2, k2, y2, r2, rfl, ho2, hown2, hr2, hc2⟩
          have HO2 := Lib.hid ho2
          have HR2 := Lib.hid hr2
          have HE2 := Lib.hid (hE.out.chg hc2 (Nat.le_refl _))
          have HOL2 := Lib.hid (ho.out.chg1 hr.out hc2)
          obtain ⟨_, _, _, e2, hl2, hrd2, _⟩ := hown2.formN
          cases e2
          have HRD2 := Lib.hid hrd2
          clear ho2 hr2 hc2 hown2 hrd2 ho hr hE
          by_cases q2 : k2 = 0
          · subst q2
            have hgb : getB 65636 r = some (y2, r2) := by
              rcases HO2.out with ⟨_, h⟩ | ⟨h, _⟩
              · exact h
              · exact absurd rfl h
            have hn2 : n2 ≤ B40 := by rw [← HRD2.out.1]; have := getB_le hgb; unfold B40; omega
            have HGB := Lib.hid hgb
            clear hgb
            go_wp2_with fail
            refine (rread_any A2 n2 c2 y2 _ HRD2.out hl2 hn2).mono ?_
            rintro e w3 ⟨v3, rfl, hf3, hw3⟩
            have HF3 := Lib.hid hf3
            obtain ⟨A3, n3, c3, B3, m3, d3, rfl, _⟩ := hf3
            have HE3 := Lib.hid (HE2.out.trans hw3)
            have HOL3 := Lib.hid (HOL2.out.ext hw3)
            have HR3 := Lib.hid (HR2.out.ext hw3)
            clear hw3
            cases hre : readE y2 with
            | none =>
              have hbad : readL x = none := readL_none (by rw [HGL.out]; exact hG.out.bad HLT.out (.inr ⟨by decide, rfl, .inr ⟨y2, HGB.out, hre⟩⟩ : OneOut r 4 ent0 r2) (by decide))
              have hrn := (rd_bad hre).2
              have HBAD := Lib.hid hbad
              clear hre hbad
              rw [hrn]
              clear hrn
              go_wp2
              go_ret2
              exact FIN.out _ (HE3.out.alloc _) HBAD.out
            | some a =>
              have hra := (rd_ok hre).1
              have hrn := (rd_ok hre).2
              have hG2 := hG.out.step HLT.out HGB.out hre
              have HG2 := Lib.hid hG2
              have hfl : FrE w3 w.heap.size (.agg (cellsE ⟨A3, n3, c3, B3, m3, d3⟩ (rdE y2)).toArray) (rdE y2) := HF3.out.low HE2.out.size
              have HFL := Lib.hid hfl
              have hbs : w.heap.size ≤ (w3.alloc (.cells #[.slice A3 n3 c3, .int .i64 (rdE y2).seq, .int .i64 (rdE y2).kind, .slice B3 m3 d3] 47)).heap.size := (HE3.out.alloc _).size
              have HBS := Lib.hid hbs
              have HRA := Lib.hid hra
              have hes : es.length ≤ 1000000 := by rw [hl.out]; omega
              have HES := Lib.hid hes
              rw [hrn]
              clear hre hG2 hfl hra hrn hes hbs
              go_wp2_with (at_builtin; refine wp_appF rfl _ _ rfl w.heap.size _ es rfl _ _ ⟨A3, n3, c3, B3, m3, d3⟩ (rdE y2) rfl (OwnF.ext HOL3.out (by with_reducible (repeat (first | exact Ext.rfl_ _ | assumption | refine Ext.drew ?_ | refine Ext.drewN ?_ _ | refine Ext.alloc ?_ _ | refine Ext.trans ?_ (by assumption))))) (FrE.extF HFL.out (by with_reducible (repeat (first | exact Ext.rfl_ _ | assumption | refine Ext.drew ?_ | refine Ext.drewN ?_ _ | refine Ext.alloc ?_ _ | refine Ext.trans ?_ (by assumption))))) (w3.heap.size + 1) (World.size_alloc _ _) rfl HES.out HBS.out ?_; intro v5 w5 o5 kx5 g5; have hE5 : Ext w w5 := Ext.growL ((HE3.out.alloc _).alloc _) g5 (OwnF.ownL (OwnF.ext HOL3.out (by with_reducible (repeat (first | exact Ext.rfl_ _ | assumption | refine Ext.drew ?_ | refine Ext.drewN ?_ _ | refine Ext.alloc ?_ _ | refine Ext.trans ?_ (by assumption)))))) (Nat.le_refl _); have hr5 : Rdr1 w.heap.size w5 w.heap.size r2 := (HR3.out.ext (by with_reducible (repeat (first | exact Ext.rfl_ _ | assumption | refine Ext.drew ?_ | refine Ext.drewN ?_ _ | refine Ext.alloc ?_ _ | refine Ext.trans ?_ (by assumption))))).grown g5 (fun k hk => ⟨(OwnF.lt HOL3.out k hk).1, OwnF.rowE (OwnF.ext HOL3.out (by with_reducible (repeat (first | exact Ext.rfl_ _ | assumption | refine Ext.drew ?_ | refine Ext.drewN ?_ _ | refine Ext.alloc ?_ _ | refine Ext.trans ?_ (by assumption))))) k hk⟩); have HO5 := Lib.hid o5; have HE5 := Lib.hid hE5; have HR5 := Lib.hid hr5; clear g5 o5 hE5 hr5)
              go_roundw
              case rel =>
                exact ⟨k + 1, es ++ [rdE y2], r2, by go_num, by omega, Lib.hid (by simp [hl.out]), HO5, HR5, HE5, by rw [HRA.out]; exact HG2⟩
              case measure => simp [intOf]; omega
          · have q2' : (k2 != 0) = true := by simpa using q2
            have hbad : readL x = none := by
              refine readL_none ?_
              rw [HGL.out]
              rcases HO2.out with ⟨h, _⟩ | ⟨_, h, _⟩
              · exact absurd h q2
              · exact hG.out.bad HLT.out (.inr ⟨q2, rfl, .inl h⟩ : OneOut r k2 ent0 r2) q2
            have HBAD := Lib.hid hbad
            clear hbad q2
            go_wp2
            go_ret2
            exact FIN.out _ HE2.out HBAD.out
        · have hend : getL x = some (es, r) := by rw [HGL.out]; exact hG.out.end_ (by rw [hl.out]; omega)
          have HEND := Lib.hid hend
          clear hend
          by_cases hr0 : r = []
          · subst hr0
            have HOK := Lib.hid (readL_some HEND.out)
            go_wp2_with fail
            refine (r1left_any w.heap.size [] _ hr.out).mono ?_
            rintro e w7 ⟨rfl, rfl⟩
            go_wp2
            go_ret2
            exact ⟨_, w.heap.size, by rw [(rdL_ok HOK.out).2]; rfl, Nat.le_refl _, by rw [(rdL_ok HOK.out).1]; exact ho.out, hE.out⟩
          · have HBAD := Lib.hid (readL_rest HEND.out hr0)
            have hpos : (0 : Int) < (r.length : Int) := by have := List.length_pos_iff.2 hr0; omega
            have hpos2 : 0 < r.length := List.length_pos_iff.2 hr0
            clear hr0
            go_wp2_with fail
            refine (r1left_any w.heap.size r _ hr.out).mono ?_
            rintro e w7 ⟨rfl, rfl⟩
            go_wp2
            go_ret2
            exact FIN.out _ hE.out HBAD.out

end Go.Proofs.Ythdahmicjlplcaa
