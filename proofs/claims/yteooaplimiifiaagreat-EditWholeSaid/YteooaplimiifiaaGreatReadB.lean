/- Contracts of wire.Open, Reader.Number, Reader.End. Conditions: the slice reads; the reader is one that Open made. -/
import Derived.Test.YteooaplimiifiaaGreatReadA
namespace Go.Proofs.YteooaplimiifiaaGreat
set_option linter.unusedSimpArgs false
set_option linter.unusedVariables false
set_option maxRecDepth 100000
open Go.RowKit

/-- Block b is one of bytes. -/
def TyB (w : World) (b : Nat) : Prop := ∃ cs fr, w.heap[b]? = some (.cells cs 5 fr)
theorem TyB.ext {w w' : World} {b : Nat} (h : TyB w b) (he : Ext w w') : TyB w' b := by
  obtain ⟨cs, fr, h⟩ := h
  exact ⟨cs, fr, ((Ext.below he).block _ (Array.getElem?_eq_some_iff.1 h).1).trans h⟩
theorem TyB.chg' {w w' : World} {b g : Nat} {cs : Array Value} {t : TypeId} {fr : Nat × Nat} (h : TyB w b) (hg : w.heap[g]? = some (.cells cs t fr)) (ht : t ≠ 5) (hc : w.grownBy w' (some g)) : TyB w' b := by
  obtain ⟨cs', fr', h⟩ := h
  refine ⟨cs', fr', (hc.block _ (Array.getElem?_eq_some_iff.1 h).1 (fun e => ?_)).trans h⟩
  rw [Option.some.inj e, hg] at h
  simp at h; exact ht h.2.1
theorem TyB.setCell {w : World} {b : Nat} (h : TyB w b) (p : Addr) (u : Value) : TyB (w.setCell p u) b := by
  obtain ⟨cs, fr, h⟩ := h
  by_cases e : p.block = b
  · subst e
    by_cases hs : p.spot.isSome = true
    · exact ⟨cs, fr, by simp [World.setCell, Array.getElem?_modify, h]; intro hn; simp [hn] at hs⟩
    · exact ⟨cs.setIfInBounds p.off u, fr, by simp [World.setCell, Array.getElem?_modify, h]; intro hn; exact absurd hn hs⟩
  · exact ⟨cs, fr, (Below.heap_setCell _ _ _ _ (Ne.symm e)).trans h⟩
theorem TyB.of_own {w : World} {base n c : Nat} {b : Nat} {x : Bs} (h : OwnB w base (.slice (some ⟨b, 0, none⟩) n c) x) : TyB w b := by
  rcases h.out.2 with ⟨hv, h0⟩ | ⟨g, cap, cur, hv, _, hg, _⟩
  · cases hv
  · cases hv; exact ⟨_, _, hg⟩

/-- A reader at block g that has x ahead. -/
def Rdr (w : World) (g : Nat) (x : Bs) : Prop :=
  ∃ b o n c, w.heap[g]? = some (.cells #[.slice (some ⟨b, o, none⟩) n c] 123 (0, 0)) ∧ (Rd w (some ⟨b, o, none⟩) n x ∧ TyB w b) ∧ n ≤ c ∧ n ≤ B40

/-- Block g alone, and what is new, may have turned. -/
def Chg (g : Nat) (w w' : World) : Prop := w.grownBy w' (some g)
theorem Chg.rfl_ (g : Nat) (w : World) : Chg g w w := World.grownBy.refl _ _
theorem Chg.of_ext {g : Nat} {w w' : World} (h : Ext w w') : Chg g w w' := ⟨(Ext.below h).os, (Ext.below h).tape, (Ext.below h).output, (Ext.below h).size, fun k hk _ => (Ext.below h).block k hk⟩
theorem Chg.trans {g : Nat} {a b c : World} (h : Chg g a b) (k : Chg g b c) : Chg g a c :=
  ⟨k.os.trans h.os, k.tape.trans h.tape, k.output.trans h.output, Nat.le_trans h.size k.size, fun i hi hne => (k.block i (Nat.lt_of_lt_of_le hi h.size) hne).trans (h.block i hi hne)⟩
theorem Chg.setCell {g : Nat} {a w : World} (h : Chg g a w) (o : Nat) (u : Value) : Chg g a (w.setCell ⟨g, o, none⟩ u) :=
  h.trans ⟨rfl, rfl, rfl, by simp [World.setCell], fun k hk hne => Below.heap_setCell _ _ _ _ (fun e => hne (by rw [e]))⟩
theorem Chg.ext {g : Nat} {a w w' : World} (h : Chg g a w) (k : Ext w w') : Chg g a w' := h.trans (Chg.of_ext k)
theorem Ext.chg {g : Nat} {a w w' : World} (h : Ext a w) (k : Chg g w w') (hg : a.heap.size ≤ g) : Ext a w' := Ext.grown h k (fun i e => by cases e; exact hg)

theorem Rd.ne_rdr {w : World} {g : Nat} {A B : Option Addr} {n m d : Nat} {t : TypeId} {fr : Nat × Nat} {y : Bs} (h : Rd w A n y) (hg : w.heap[g]? = some (.cells #[.slice B m d] t fr)) (hn : 0 < n) : ∀ a, A = some a → a.block ≠ g := by
  intro a ha hb
  obtain ⟨b, o, e, hc⟩ := h.2 hn
  rw [ha] at e
  cases e
  simp only at hb
  subst hb
  have := hc 0 (by rw [h.1]; exact hn)
  simp only [World.cell?, hg, Nat.add_zero] at this
  cases o with
  | zero => simp at this
  | succ o => simp at this

theorem Rd.chg {w w' : World} {g : Nat} {A B : Option Addr} {n m d : Nat} {t : TypeId} {fr : Nat × Nat} {y : Bs} (h : Rd w A n y) (hg : w.heap[g]? = some (.cells #[.slice B m d] t fr)) (hc : Chg g w w') : Rd w' A n y :=
  ⟨h.1, fun hn => by
    obtain ⟨b, o, e, hcl⟩ := h.2 hn
    have hne := h.ne_rdr hg hn _ e
    refine ⟨b, o, e, fun j hj => ?_⟩
    have := hcl j hj
    exact (World.cell?_of_block (w := w) (a := ⟨b, o + j, none⟩) (hc.block b (cell_lt this) (fun e => hne (by cases e; rfl)))).trans this⟩

theorem Rdr.rd {w w' : World} {g : Nat} {x y : Bs} {A : Option Addr} {n : Nat} (h : Rdr w g x) (hy : Rd w A n y) (hc : Chg g w w') : Rd w' A n y := by
  obtain ⟨b, o, m, c, hg, _⟩ := h
  exact hy.chg hg hc

theorem Rdr.ext {w w' : World} {g : Nat} {x : Bs} (h : Rdr w g x) (he : Ext w w') : Rdr w' g x := by
  obtain ⟨b, o, n, c, hg, hr, h1, h2⟩ := h
  exact ⟨b, o, n, c, ((Ext.below he).block g (Array.getElem?_eq_some_iff.1 hg).1).trans hg, ⟨hr.1.ext he, hr.2.ext he⟩, h1, h2⟩

theorem Rdr.lt {w : World} {g : Nat} {x : Bs} (h : Rdr w g x) : g < w.heap.size := by
  obtain ⟨b, o, n, c, hg, _⟩ := h
  exact (Array.getElem?_eq_some_iff.1 hg).1

/-- A reader stays where another block turns. -/
theorem Rdr.other {w w' : World} {g g' : Nat} {x y : Bs} (h : Rdr w g x) (h' : Rdr w g' y) (hne : g ≠ g') (hc : Chg g' w w') : Rdr w' g x := by
  obtain ⟨b, o, n, c, hg, hr, h1, h2⟩ := h
  exact ⟨b, o, n, c, (hc.block g (Array.getElem?_eq_some_iff.1 hg).1 (fun e => hne (by cases e; rfl))).trans hg, ⟨h'.rd hr.1 hc, by obtain ⟨_, _, _, _, hg', _⟩ := h'; exact hr.2.chg' hg' (by decide) hc⟩, h1, h2⟩

set_option maxRecDepth 100000 in
set_option maxHeartbeats 800000 in
theorem open_any (A : Option Addr) (n c : Nat) (x : Bs) (w : World) (hx : Rd w A n x) (hn : n ≤ B40) :
    Calls Tryz.prog 59 #[.slice A n c] w fun e w' => ∃ g, e = .returned (.pointer (some ⟨g, 0, none⟩)) ∧ w.heap.size ≤ g ∧ Rdr w' g x ∧ Ext w w' := by
  have hl := hx.1
  have HX := Lib.hid hx
  have HL := Lib.hid hl
  have HB := Lib.hid hn
  clear hx hl hn
  go_enter Tryz.func59, Tryz.ntmps59
  go_wp2_with (refine wp_app2 rfl _ _ rfl w.heap.size _ [] rfl (World.ownsRow_made w #[] 0 (Nat.le_refl _) (Nat.zero_le _) rfl) A n c x rfl (HX.out.ext (by with_reducible (repeat (first | exact Ext.rfl_ _ | assumption | refine Ext.drew ?_ | refine Ext.drewN ?_ _ | refine Ext.alloc ?_ _ | refine Ext.trans ?_ (by assumption))))) (by have := HB.out; rw [HL.out]; unfold B47; unfold B40 at this; simp; omega) (by simp) ?_; intro A1 n1 c1 w1 h1 h2 h3 h4 h5 h6 h7)
  go_ret
  have hx1 : Ext w w1 := (Ext.alloc (Ext.rfl_ w) _).grown h7 (fun k hk => by simp [Act.eval, Value.ownBlock] at hk; omega)
  rcases h5 with rfl | ⟨g, rfl⟩
  · exact absurd (h6 rfl) (by simp [Act.eval])
  · refine ⟨w1.heap.size, rfl, hx1.size, ⟨g, 0, n1, c1, heap_alloc_new w1 _, ⟨?_, ?_⟩, h3, ?_⟩, hx1.alloc _⟩
    · rw [List.nil_append] at h2; exact h2.ext (by with_reducible (repeat (first | exact Ext.rfl_ _ | assumption | refine Ext.drew ?_ | refine Ext.drewN ?_ _ | refine Ext.alloc ?_ _ | refine Ext.trans ?_ (by assumption))))
    · exact (TyB.of_own h1).ext (by with_reducible (repeat (first | exact Ext.rfl_ _ | assumption | refine Ext.drew ?_ | refine Ext.drewN ?_ _ | refine Ext.alloc ?_ _ | refine Ext.trans ?_ (by assumption))))
    · have := HB.out; rw [← HL.out] at this; rw [List.nil_append] at h2; rw [← h2.1]; exact this

theorem q22 : ∀ (w : World) (a : Option Addr) (n c n' c' : Nat), (binOp .eql 35 (.slice a n c) (.slice none n' c')).run Tryz.prog w = .ok (.bool a.isNone) w := fun w a n c n' c' => Lib.run_eql_slice_nil w _ _ a n c n' c' Tryz.underlying35

theorem Rdr.cells {w : World} {g : Nat} {x : Bs} (h : Rdr w g x) : ∃ b o n c, w.cell? ⟨g, 0, none⟩ = some (.slice (some ⟨b, o, none⟩) n c) ∧ w.frozen? ⟨g, 0, none⟩ = false ∧ Rd w (some ⟨b, o, none⟩) n x ∧ n ≤ c ∧ n ≤ B40 ∧ w.heap[g]? = some (.cells #[.slice (some ⟨b, o, none⟩) n c] 123 (0, 0)) := by
  obtain ⟨b, o, n, c, hg, hr, hnc, hn⟩ := h
  exact ⟨b, o, n, c, by simp [World.cell?, hg], by simp [World.frozen?, hg], hr.1, hnc, hn, hg⟩
theorem Rdr.cellsT {w : World} {g : Nat} {x : Bs} (h : Rdr w g x) : ∃ b o n c, w.cell? ⟨g, 0, none⟩ = some (.slice (some ⟨b, o, none⟩) n c) ∧ w.frozen? ⟨g, 0, none⟩ = false ∧ Rd w (some ⟨b, o, none⟩) n x ∧ n ≤ c ∧ n ≤ B40 ∧ w.heap[g]? = some (.cells #[.slice (some ⟨b, o, none⟩) n c] 123 (0, 0)) ∧ TyB w b := by
  obtain ⟨b, o, n, c, hg, hr, hnc, hn⟩ := h
  exact ⟨b, o, n, c, by simp [World.cell?, hg], by simp [World.frozen?, hg], hr.1, hnc, hn, hg, hr.2⟩

set_option maxRecDepth 100000 in
theorem closed_any (g : Nat) (x : Bs) (w : World) (hx : Rdr w g x) :
    Calls Tryz.prog 93 #[.pointer (some ⟨g, 0, none⟩)] w fun e w' => e = .returned (.bool false) ∧ w = w' := by
  obtain ⟨b, o, n, c, hc, hf, hr, hnc, hn, hg⟩ := hx.cells
  have q22 := q22
  clear hr hnc hn hg hf
  go_enter Tryz.func93, Tryz.ntmps93
  go_wp2
  go_ret
  exact ⟨rfl, rfl⟩

/-- A slice's tail, as the model spells it. -/
theorem Rd.tail {w : World} {b o n k : Nat} {x : Bs} (h : Rd w (some ⟨b, o, none⟩) n x) (hk : k ≤ n) : Rd w (some ⟨b, o + k, none⟩) (n - k) (x.drop k) := by
  refine ⟨by rw [List.length_drop, h.1], fun hn => ?_⟩
  obtain ⟨b', o', e, hc⟩ := h.2 (by omega)
  cases e
  refine ⟨b, o + k, rfl, fun j hj => ?_⟩
  rw [List.length_drop] at hj
  have := hc (k + j) (by omega)
  rw [Nat.add_assoc, this, List.getElem_drop]

theorem Rdr.set {w : World} {g : Nat} {B : Option Addr} {m d : Nat} (hg : w.heap[g]? = some (.cells #[.slice B m d] 123 (0, 0))) {b o n c : Nat} {r : Bs} (hr : Rd w (some ⟨b, o, none⟩) n r) (ht : TyB w b) (hnc : n ≤ c) (hn : n ≤ B40) :
    Rdr (w.setCell ⟨g, 0, none⟩ (.slice (some ⟨b, o, none⟩) n c)) g r := by
  refine ⟨b, o, n, c, ?_, ⟨hr.chg hg ((Chg.rfl_ g w).setCell 0 _), ht.chg' hg (by decide) ((Chg.rfl_ g w).setCell 0 _)⟩, hnc, hn⟩
  simp [World.setCell, Array.getElem?_modify, hg]

set_option maxRecDepth 100000 in
set_option maxHeartbeats 1000000 in
theorem rnum_ok (g : Nat) (x r : Bs) (v : Nat) (w : World) (hx : Rdr w g x) (hv : getN x = some (v, r)) :
    Calls Tryz.prog 86 #[.pointer (some ⟨g, 0, none⟩)] w fun e w' => e = .returned (.tuple #[.int .u64 v, .int .i64 0]) ∧ Rdr w' g r ∧ Chg g w w' := by
  have HX := Lib.hid hx
  obtain ⟨b, o, n, c, hc, hf, hr, hnc, hn, hg, hty⟩ := hx.cellsT
  have hlen := getF_len hv
  have hfr := formR_some hv
  have hcon := form_any (some ⟨b, o, none⟩) n c x w hr hn
  have hl := hr.1
  have hd : x.drop (x.length - r.length) = r := by
    have e := numB_getN hv
    rw [e]; simp
  obtain ⟨k, hk⟩ : ∃ k, k = x.length - r.length := ⟨_, rfl⟩
  rw [hfr, ← hk] at hcon
  rw [← hk] at hd
  have hk1 : 0 < k := by omega
  have hk2 : k ≤ n := by omega
  have HC := Lib.hid hcon
  have HG := Lib.hid hg
  have HD := Lib.hid hd
  have HR := Lib.hid hr
  have HN := Lib.hid hn
  have HL := Lib.hid hl
  have hn63 : n ≤ 1099511627776 := hn
  have hk0 : ((k : Int) == 0) = false := by simp; omega
  clear hcon hg hd hr hn hfr hlen hk hl hv
  go_enter Tryz.func86, Tryz.ntmps86
  go_wp2_with (first | (go_at_call 93; refine (closed_any g x _ HX.out).mono ?_; rintro e w' ⟨rfl, rfl⟩) | (go_at_call 100; refine HC.out.mono ?_; rintro e w' ⟨rfl, rfl⟩))
  · have e : r = [] := by rw [← HD.out]; exact List.drop_eq_nil_of_le (by rw [HL.out]; omega)
    go_ret2
    refine ⟨rfl, ?_, (Chg.rfl_ g w).setCell 0 _⟩
    rw [e]
    have z : n - k = 0 := by omega
    exact Rdr.set HG.out (by rw [z]; exact Rd.nil _ _) hty (by omega) (by rw [z]; exact Nat.zero_le _)
  · go_ret2
    refine ⟨rfl, ?_, (Chg.rfl_ g w).setCell 0 _⟩
    rw [← HD.out]
    exact Rdr.set HG.out (HR.out.tail hk2) hty (by omega) (Nat.le_trans (Nat.sub_le _ _) HN.out)

set_option maxRecDepth 100000 in
set_option maxHeartbeats 1000000 in
theorem rnum_bad (g : Nat) (x : Bs) (w : World) (hx : Rdr w g x) (hv : getN x = none) :
    Calls Tryz.prog 86 #[.pointer (some ⟨g, 0, none⟩)] w fun e w' => e = .returned (.tuple #[.int .u64 0, .int .i64 4]) ∧ w = w' := by
  have HX := Lib.hid hx
  obtain ⟨b, o, n, c, hc, hf, hr, hnc, hn, hg⟩ := hx.cells
  have hfr := formR_none hv
  have hcon := form_any (some ⟨b, o, none⟩) n c x w hr hn
  rw [hfr] at hcon
  have HC := Lib.hid hcon
  clear hcon hg hr hn hfr hv hx
  go_enter Tryz.func86, Tryz.ntmps86
  go_wp2_with (first | (go_at_call 93; refine (closed_any g x _ HX.out).mono ?_; rintro e w' ⟨rfl, rfl⟩) | (go_at_call 100; refine HC.out.mono ?_; rintro e w' ⟨rfl, rfl⟩))
  go_ret2
  exact ⟨rfl, rfl⟩

set_option maxRecDepth 100000 in
theorem rend_any (g : Nat) (x : Bs) (w : World) (hx : Rdr w g x) :
    Calls Tryz.prog 67 #[.pointer (some ⟨g, 0, none⟩)] w fun e w' => e = .returned (.int .i64 (if x = [] then 0 else 4)) ∧ w = w' := by
  have HX := Lib.hid hx
  obtain ⟨b, o, n, c, hc, hf, hr, hnc, hn, hg⟩ := hx.cells
  have hl := hr.1
  by_cases hx0 : x = []
  · subst hx0
    obtain rfl : n = 0 := by simpa using hl.symm
    clear hg hr hn hx hl
    go_enter Tryz.func67, Tryz.ntmps67
    go_wp2_with (go_at_call 93; refine (closed_any g _ _ HX.out).mono ?_; rintro e w' ⟨rfl, rfl⟩)
    go_ret
    exact ⟨rfl, rfl⟩
  · have hn0 : n ≠ 0 := by rintro rfl; exact hx0 (List.eq_nil_of_length_eq_zero hl)
    have hn1 : ((n : Int) != 0) = true := by simp; omega
    clear hg hr hn hx hl
    go_enter Tryz.func67, Tryz.ntmps67
    go_wp2_with (go_at_call 93; refine (closed_any g _ _ HX.out).mono ?_; rintro e w' ⟨rfl, rfl⟩)
    go_ret
    exact ⟨rfl, rfl⟩

end Go.Proofs.YteooaplimiifiaaGreat
