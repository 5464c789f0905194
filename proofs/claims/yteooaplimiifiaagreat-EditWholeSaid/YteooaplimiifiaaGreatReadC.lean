/- Contracts of the reader's some, try and Bytes. Conditions: the reader is one that Open made; most is not below 0. -/
import Derived.Test.YteooaplimiifiaaGreatReadB
namespace Go.Proofs.YteooaplimiifiaaGreat
set_option linter.unusedSimpArgs false
set_option linter.unusedVariables false
set_option maxRecDepth 100000
open Go.RowKit

/-- Bytes in their form, of at most 'most', and what is behind them. -/
def getB (most : Nat) (x : Bs) : Option (Bs × Bs) :=
  match getN x with
  | none => none
  | some (n, r) => if most < n then none else if r.length < n then none else some (r.take n, r.drop n)

theorem OwnB.chg {w w' : World} {base g : Nat} {v : Value} {x : Bs} {cs : Array Value} {t : TypeId} {fr : Nat × Nat} (h : OwnB w base v x) (hg : w.heap[g]? = some (.cells cs t fr)) (ht : t ≠ 5) (hc : Chg g w w') : OwnB w' base v x := by
  refine World.ownsRow.kept h.out hc ?_
  rcases h.out.2 with ⟨rfl, _⟩ | ⟨g', cap, cur, rfl, _, hg', _⟩
  · exact .inl rfl
  · refine .inr fun e => ?_
    simp [Value.ownBlock] at e
    subst e
    rw [hg] at hg'
    injection hg' with e1
    injection e1 with _ e2
    exact ht e2

theorem OwnB.ext {w w' : World} {base : Nat} {v : Value} {x : Bs} (h : OwnB w base v x) (hx : Ext w w') : OwnB w' base v x := by
  refine World.ownsRow.kept (row := none) h.out ⟨(Ext.below hx).os, (Ext.below hx).tape, (Ext.below hx).output, (Ext.below hx).size, fun k hk _ => (Ext.below hx).block k hk⟩ ?_
  rcases h.out.2 with ⟨rfl, _⟩ | ⟨g', cap, cur, rfl, _, hg', _⟩
  · exact .inl rfl
  · exact .inr (by simp [Value.ownBlock])

theorem box1 {W w' : World} {g : Nat} {t : TypeId} {a : Value} (h : W.heap[g]? = some (.cells #[a] t (0, 0))) (hx : Ext W w') :
    w'.cell? ⟨g, 0, none⟩ = some a ∧ w'.frozen? ⟨g, 0, none⟩ = false ∧ w'.heap[g]? = some (.cells #[a] t (0, 0)) := by
  have hg : w'.heap[g]? = some (.cells #[a] t (0, 0)) := ((Ext.below hx).block g (Array.getElem?_eq_some_iff.1 h).1).trans h
  simp [World.cell?, World.frozen?, hg]

set_option maxRecDepth 100000 in
set_option maxHeartbeats 1000000 in
theorem some_ok (g k : Nat) (x : Bs) (w : World) (hx : Rdr w g x) (hk : k ≤ x.length) :
    Calls Tryz.prog 92 #[.pointer (some ⟨g, 0, none⟩), .int .i64 k] w fun e w' => ∃ v', e = .returned (.tuple #[v', .int .i64 0]) ∧ OwnB w' w.heap.size v' (x.take k) ∧ Rdr w' g (x.drop k) ∧ Chg g w w' := by
  have HX := Lib.hid hx
  have hlt := hx.lt
  obtain ⟨b, o, n, c, hc, hf, hr, hnc, hn, hg, hty⟩ := hx.cellsT
  have hl := hr.1
  have hkn : k ≤ n := by omega
  have hn63 : n ≤ 1099511627776 := hn
  have HR := Lib.hid hr
  have HG := Lib.hid hg
  have HN := Lib.hid hn
  have HL := Lib.hid hl
  have hhead : Rd w (some ⟨b, o, none⟩) k (x.take k) := by
    refine ⟨by simp; omega, fun h0 => ?_⟩
    obtain ⟨b', o', e, hcl⟩ := hr.2 (by omega)
    cases e
    refine ⟨b, o, rfl, fun j hj => ?_⟩
    rw [List.length_take] at hj
    rw [List.getElem_take]
    exact hcl j (by omega)
  have HH := Lib.hid hhead
  have htl : (x.take k).length ≤ B47 := by rw [List.length_take]; unfold B47; unfold B40 at hn; omega
  have HT := Lib.hid htl
  clear hr hg hn hx hl hhead hk htl
  go_enter Tryz.func92, Tryz.ntmps92
  go_wp2_with (refine wp_app2 rfl _ _ rfl w.heap.size _ [] rfl (World.ownsRow_made w #[] 0 (Nat.le_refl _) (Nat.zero_le _) rfl) (some ⟨b, o, none⟩) k _ (x.take k) rfl (HH.out.ext (by with_reducible (repeat (first | exact Ext.rfl_ _ | assumption | refine Ext.drew ?_ | refine Ext.drewN ?_ _ | refine Ext.alloc ?_ _ | refine Ext.trans ?_ (by assumption))))) (by have := HT.out; simpa using this) (by simp) ?_; intro A1 n1 c1 w1 h1 h2 h3 h4 h5 h6 h7; have hx1 : Ext w w1 := (Ext.alloc (Ext.rfl_ w) _).grown h7 (fun k hk => by simp [Act.eval, Value.ownBlock] at hk; omega); obtain ⟨hc1, hf1, hg1⟩ := box1 HG.out hx1; have HG1 := Lib.hid hg1; clear hg1)
  all_goals (rw [List.nil_append] at h1)
  · have e : x.drop k = [] := List.drop_eq_nil_of_le (by rw [HL.out]; omega)
    go_ret2
    refine ⟨_, rfl, h1.chg HG1.out (by decide) ((Chg.rfl_ g w1).setCell 0 _), ?_, (Chg.of_ext hx1).setCell 0 _⟩
    rw [e]
    have z : n - k = 0 := by omega
    exact Rdr.set HG1.out (by rw [z]; exact Rd.nil _ _) (hty.ext hx1) (by omega) (by rw [z]; exact Nat.zero_le _)
  · go_ret2
    exact ⟨_, rfl, h1.chg HG1.out (by decide) ((Chg.rfl_ g w1).setCell 0 _), Rdr.set HG1.out ((HR.out.ext hx1).tail hkn) (hty.ext hx1) (by omega) (Nat.le_trans (Nat.sub_le _ _) HN.out), (Chg.of_ext hx1).setCell 0 _⟩

set_option maxRecDepth 100000 in
theorem some_bad (g k : Nat) (x : Bs) (w : World) (hx : Rdr w g x) (hk : x.length < k) (hk2 : k ≤ B40) :
    Calls Tryz.prog 92 #[.pointer (some ⟨g, 0, none⟩), .int .i64 k] w fun e w' => e = .returned (.tuple #[.slice none 0 0, .int .i64 4]) ∧ w = w' := by
  obtain ⟨b, o, n, c, hc, hf, hr, hnc, hn, hg⟩ := hx.cells
  have hl := hr.1
  have hkn : n < k := by omega
  unfold B40 at hk2 hn
  clear hr hg hx hl hk
  go_enter Tryz.func92, Tryz.ntmps92
  go_wp2
  go_ret2
  exact ⟨rfl, rfl⟩

theorem getB_num {most : Nat} {x : Bs} (h : getN x = none) : getB most x = none := by unfold getB; rw [h]
theorem getB_long {most n : Nat} {x r : Bs} (h : getN x = some (n, r)) (hm : most < n) : getB most x = none := by unfold getB; rw [h]; simp [hm]
theorem getB_short {most n : Nat} {x r : Bs} (h : getN x = some (n, r)) (hm : ¬ most < n) (hs : r.length < n) : getB most x = none := by unfold getB; rw [h]; simp [hm, hs]
theorem getB_yes {most n : Nat} {x r : Bs} (h : getN x = some (n, r)) (hm : ¬ most < n) (hs : ¬ r.length < n) : getB most x = some (r.take n, r.drop n) := by unfold getB; rw [h]; simp [hm, hs]

set_option maxRecDepth 100000 in
set_option maxHeartbeats 2000000 in
theorem try_ok (g most n : Nat) (x r : Bs) (w : World) (hx : Rdr w g x) (hm : most ≤ B40) (hv : getN x = some (n, r)) (hmn : n ≤ most) (hnr : n ≤ r.length) :
    Calls Tryz.prog 91 #[.pointer (some ⟨g, 0, none⟩), .int .i64 most, .func (.func 92) #[] #[]] w fun e w' => ∃ v', e = .returned (.tuple #[v', .int .i64 0]) ∧ OwnB w' w.heap.size v' (r.take n) ∧ Rdr w' g (r.drop n) ∧ Chg g w w' := by
  have HX := Lib.hid hx
  obtain ⟨b, o, m, c, hc, hf, hr, hnc, hn, hg, hty⟩ := hx.cellsT
  have hlt := hx.lt
  have HG := Lib.hid hg
  have HR := Lib.hid hr
  have HN := Lib.hid hn
  have HV := Lib.hid hv
  have hne : g ≠ w.heap.size := by omega
  unfold B40 at hm
  clear hg hr hn hx hv
  go_enter Tryz.func91, Tryz.ntmps91
  go_wp2_with (go_at_call 93; refine (closed_any g x _ HX.out).mono ?_; rintro e w' ⟨rfl, rfl⟩)
  have hR0 : Rdr (w.alloc (.cells #[.slice (some ⟨b, o, none⟩) m c] 123)) w.heap.size x := ⟨b, o, m, c, heap_alloc_new w _, ⟨HR.out.ext (by with_reducible (repeat (first | exact Ext.rfl_ _ | assumption | refine Ext.drew ?_ | refine Ext.drewN ?_ _ | refine Ext.alloc ?_ _ | refine Ext.trans ?_ (by assumption)))), hty.ext (by with_reducible (repeat (first | exact Ext.rfl_ _ | assumption | refine Ext.drew ?_ | refine Ext.drewN ?_ _ | refine Ext.alloc ?_ _ | refine Ext.trans ?_ (by assumption))))⟩, hnc, HN.out⟩
  refine (rnum_ok w.heap.size x r n _ hR0 HV.out).mono ?_
  rintro e w1 ⟨rfl, hr1, hch1⟩
  have hch0 : Chg w.heap.size w w1 := (Chg.of_ext (Ext.alloc (Ext.rfl_ w) _)).trans hch1
  have hm2 : ¬ most < n := by omega
  clear hR0
  go_wp2_with fail
  refine (some_ok w.heap.size n r w1 hr1 (by omega)).mono ?_
  rintro e w2 ⟨v2, rfl, hown, hr2, hch2⟩
  have hch : Chg w.heap.size w w2 := hch0.trans hch2
  have hg2 : w2.heap[g]? = some (.cells #[.slice (some ⟨b, o, none⟩) m c] 123 (0, 0)) := (hch.block g hlt (fun e => hne (by cases e; rfl))).trans HG.out
  obtain ⟨b2, o2, n2, c2, hc2, hf2, hd2, hnc2, hn2, hgc2, hty2⟩ := hr2.cellsT
  have hcg2 : w2.cell? ⟨g, 0, none⟩ = some (.slice (some ⟨b, o, none⟩) m c) := by simp [World.cell?, hg2]
  have hfg2 : w2.frozen? ⟨g, 0, none⟩ = false := by simp [World.frozen?, hg2]
  have hsz1 : w.heap.size ≤ w1.heap.size := hch0.size
  have HG2 := Lib.hid hg2
  have HD2 := Lib.hid hd2
  have HOWN := Lib.hid hown
  have HE : Ext w w2 := Ext.chg (Ext.rfl_ w) hch (Nat.le_refl _)
  clear hg2 hgc2 hd2 hown hr2 hr1 hc hf
  go_wp2_with fail
  go_ret2
  refine ⟨v2, rfl, (HOWN.out.chg HG2.out (by decide) ((Chg.rfl_ g w2).setCell 0 _)).mono hsz1, Rdr.set HG2.out HD2.out hty2 hnc2 hn2, (Chg.of_ext HE).setCell 0 _⟩

set_option maxRecDepth 100000 in
set_option maxHeartbeats 2000000 in
theorem try_bad (g most : Nat) (x : Bs) (w : World) (hx : Rdr w g x) (hm : most ≤ B40) (hv : getB most x = none) :
    Calls Tryz.prog 91 #[.pointer (some ⟨g, 0, none⟩), .int .i64 most, .func (.func 92) #[] #[]] w fun e w' => ∃ k : Int, e = .returned (.tuple #[.slice none 0 0, .int .i64 k]) ∧ (k = 3 ∨ k = 4) ∧ Ext w w' := by
  have HX := Lib.hid hx
  obtain ⟨b, o, m, c, hc, hf, hr, hnc, hn, hg, hty⟩ := hx.cellsT
  have hlt := hx.lt
  have HR := Lib.hid hr
  have HN := Lib.hid hn
  have HM := Lib.hid hm
  unfold B40 at hm
  have hR0 : Rdr (w.alloc (.cells #[.slice (some ⟨b, o, none⟩) m c] 123)) w.heap.size x := ⟨b, o, m, c, heap_alloc_new w _, ⟨HR.out.ext (by with_reducible (repeat (first | exact Ext.rfl_ _ | assumption | refine Ext.drew ?_ | refine Ext.drewN ?_ _ | refine Ext.alloc ?_ _ | refine Ext.trans ?_ (by assumption)))), hty.ext (by with_reducible (repeat (first | exact Ext.rfl_ _ | assumption | refine Ext.drew ?_ | refine Ext.drewN ?_ _ | refine Ext.alloc ?_ _ | refine Ext.trans ?_ (by assumption))))⟩, hnc, HN.out⟩
  have HR0 := Lib.hid hR0
  clear hr hg hn hx hR0
  cases hg : getN x with
  | none =>
    have HG := Lib.hid hg
    clear hg hv
    go_enter Tryz.func91, Tryz.ntmps91
    go_wp2_with (first | (go_at_call 93; refine (closed_any g x _ HX.out).mono ?_; rintro e w' ⟨rfl, rfl⟩) | (go_at_call 86; refine (rnum_bad w.heap.size x _ HR0.out HG.out).mono ?_; rintro e w' ⟨rfl, rfl⟩))
    go_ret2
    exact ⟨4, rfl, .inr rfl, (by with_reducible (repeat (first | exact Ext.rfl_ _ | assumption | refine Ext.drew ?_ | refine Ext.drewN ?_ _ | refine Ext.alloc ?_ _ | refine Ext.trans ?_ (by assumption))))⟩
  | some p =>
    obtain ⟨n, r⟩ := p
    have hn64 := getN_lt hg
    have HG := Lib.hid hg
    by_cases hmn : most < n
    · clear hg hv
      go_enter Tryz.func91, Tryz.ntmps91
      go_wp2_with (first | (go_at_call 93; refine (closed_any g x _ HX.out).mono ?_; rintro e w' ⟨rfl, rfl⟩) | (go_at_call 86; refine (rnum_ok w.heap.size x r n _ HR0.out HG.out).mono ?_; rintro e w1 ⟨rfl, hr1, hch1⟩))
      go_ret2
      exact ⟨3, rfl, .inl rfl, (Ext.alloc (Ext.rfl_ w) _).chg hch1 (Nat.le_refl _)⟩
    · have hs : r.length < n := by
        rcases Nat.lt_or_ge r.length n with h | h
        · exact h
        · rw [getB_yes hg hmn (by omega)] at hv; cases hv
      have hnB : n ≤ B40 := Nat.le_trans (by omega) HM.out
      have HNB := Lib.hid hnB
      have hn63 : n ≤ 1099511627776 := hnB
      clear hg hv hnB
      go_enter Tryz.func91, Tryz.ntmps91
      go_wp2_with (first | (go_at_call 93; refine (closed_any g x _ HX.out).mono ?_; rintro e w' ⟨rfl, rfl⟩) | (go_at_call 86; refine (rnum_ok w.heap.size x r n _ HR0.out HG.out).mono ?_; rintro e w1 ⟨rfl, hr1, hch1⟩) | (go_at_call 92; refine (some_bad w.heap.size n r _ hr1 hs HNB.out).mono ?_; rintro e w' ⟨rfl, rfl⟩))
      go_ret2
      exact ⟨4, rfl, .inr rfl, (Ext.alloc (Ext.rfl_ w) _).chg hch1 (Nat.le_refl _)⟩

set_option maxRecDepth 100000 in
theorem rbytes_ok (g most : Nat) (x y r : Bs) (w : World) (hx : Rdr w g x) (hm : most ≤ B40) (hv : getB most x = some (y, r)) :
    Calls Tryz.prog 66 #[.pointer (some ⟨g, 0, none⟩), .int .i64 most] w fun e w' => ∃ v', e = .returned (.tuple #[v', .int .i64 0]) ∧ OwnB w' w.heap.size v' y ∧ Rdr w' g r ∧ Chg g w w' := by
  have HX := Lib.hid hx
  have HM := Lib.hid hm
  obtain ⟨n, q, hq, h1, h2, rfl, rfl⟩ : ∃ n q, getN x = some (n, q) ∧ n ≤ most ∧ n ≤ q.length ∧ y = q.take n ∧ r = q.drop n := by
    cases hg : getN x with
    | none => rw [getB_num hg] at hv; cases hv
    | some p =>
      obtain ⟨n, q⟩ := p
      by_cases h1 : most < n
      · rw [getB_long hg h1] at hv; cases hv
      · by_cases h2 : q.length < n
        · rw [getB_short hg h1 h2] at hv; cases hv
        · rw [getB_yes hg h1 h2] at hv
          cases hv
          exact ⟨n, q, rfl, by omega, by omega, rfl, rfl⟩
  have HQ := Lib.hid hq
  clear hx hm hv hq
  go_enter Tryz.func66, Tryz.ntmps66
  go_wp2_with (go_at_call 91; refine (try_ok g most n x q _ HX.out HM.out HQ.out h1 h2).mono ?_; rintro e w1 ⟨v1, rfl, ho, hr, hch⟩)
  go_ret2
  exact ⟨v1, rfl, ho, hr, hch⟩

set_option maxRecDepth 100000 in
theorem rbytes_bad (g most : Nat) (x : Bs) (w : World) (hx : Rdr w g x) (hm : most ≤ B40) (hv : getB most x = none) :
    Calls Tryz.prog 66 #[.pointer (some ⟨g, 0, none⟩), .int .i64 most] w fun e w' => ∃ k : Int, e = .returned (.tuple #[.slice none 0 0, .int .i64 k]) ∧ (k = 3 ∨ k = 4) ∧ Ext w w' := by
  have HX := Lib.hid hx
  have HM := Lib.hid hm
  have HV := Lib.hid hv
  clear hx hm hv
  go_enter Tryz.func66, Tryz.ntmps66
  go_wp2_with (go_at_call 91; refine (try_bad g most x _ HX.out HM.out HV.out).mono ?_; rintro e w1 ⟨k, rfl, hk, hx⟩)
  go_ret2
  exact ⟨k, rfl, hk, hx⟩

end Go.Proofs.YteooaplimiifiaaGreat
