/- Contracts of ikey.Lists with all that it calls. Conditions: the reader, the slice read. -/
import Derived.Test.YthdahmicjlplcaaOwnL
import Derived.Test.YthdahmicjlplcaaKx
import Derived.Test.YthdahmicjlplcaaLawL
import Derived.Test.YthdahmicjlplcaaKeyR
namespace Go.Proofs.Ythdahmicjlplcaa
set_option linter.unusedSimpArgs false
set_option linter.unusedVariables false
open Go.RowKit

theorem Rd.chgN {w w' : World} {z : Nat} {A : Option Addr} {n : Nat} {y : Bs} {cs : Array Value} {t : TypeId} {fr : Nat × Nat} (h : Rd w A n y) (hg : w.heap[z]? = some (.cells cs t fr)) (hcs : ∀ (i : Nat) (k : Int), cs[i]? ≠ some (Value.int .u8 k)) (hc : Chg z w w') : Rd w' A n y :=
  ⟨h.1, fun hn => by
    obtain ⟨b, o, e, hcl⟩ := h.2 hn
    have hne := h.apart hg hcs hn _ e
    refine ⟨b, o, e, fun j hj => ?_⟩
    have := hcl j hj
    unfold World.cell? at *
    rw [hc.block b (cell_lt (hcl j hj)) (fun e2 => hne (by cases e2; rfl))]
    exact this⟩
theorem Rdr.chgN {w w' : World} {g z : Nat} {x : Bs} {cs : Array Value} {t : TypeId} {fr : Nat × Nat} (h : Rdr w g x) (hg : w.heap[z]? = some (.cells cs t fr)) (ht : t ≠ 5) (hcs : ∀ (i : Nat) (k : Int), cs[i]? ≠ some (Value.int .u8 k)) (hne : g ≠ z) (hc : Chg z w w') : Rdr w' g x := by
  obtain ⟨b, o, n, c, h1, h2, h3⟩ := h
  exact ⟨b, o, n, c, (hc.block g (Array.getElem?_eq_some_iff.1 h1).1 (fun e => hne (by cases e; rfl))).trans h1, ⟨h2.1.chgN hg hcs hc, h2.2.chg' hg ht hc⟩, h3⟩
theorem Chg.setNew {g : Nat} {a w : World} (h : Chg g a w) {p : Addr} (hp : a.heap.size ≤ p.block) (u : Value) : Chg g a (w.setCell p u) :=
  ⟨h.os, h.tape, h.output, by simpa [World.setCell] using h.size, fun k hk hne => (Below.heap_setCell _ _ _ _ (fun e => by omega)).trans (h.block k hk hne)⟩
theorem FrE.chgN {w w' : World} {z base : Nat} {v : Value} {x : Ent} {cs : Array Value} {t : TypeId} {fr : Nat × Nat} (h : FrE w base v x) (hg : w.heap[z]? = some (.cells cs t fr)) (ht : t ≠ 5) (hcs : ∀ (i : Nat) (k : Int), cs[i]? ≠ some (Value.int .u8 k)) (hc : Chg z w w') : FrE w' base v x := by
  obtain ⟨A, n, c, A', n', c', rfl, o1, o2, r1, r2, rest⟩ := h
  exact ⟨A, n, c, A', n', c', rfl, o1.chg hg ht hc, o2.chg hg ht hc, r1.chgN hg hcs hc, r2.chgN hg hcs hc, rest⟩
theorem FrE.mono {w : World} {base base' : Nat} {v : Value} {x : Ent} (h : FrE w base v x) (hb : base' ≤ base) : FrE w base' v x := by
  obtain ⟨A, n, c, A', n', c', rfl, o1, o2, r1, r2, a, b, c', d, e, f⟩ := h
  exact ⟨A, n, c, A', n', _, rfl, o1.mono hb, o2.mono hb, r1, r2, a, b, c', d, e.mono hb, f.mono hb⟩

/-- What 'one' of Lists answers at a reader with x ahead. -/
def OneOut (x : Bs) (k : Int) (a : Ent) (r : Bs) : Prop := (k = 0 ∧ ∃ y, getB 65636 x = some (y, r) ∧ readE y = some a) ∨ (k ≠ 0 ∧ a = ent0 ∧ (getB 65636 x = none ∨ ∃ y, getB 65636 x = some (y, r) ∧ readE y = none))

set_option maxRecDepth 100000 in
set_option maxHeartbeats 2000000 in
theorem lists1_any (g : Nat) (x : Bs) (w : World) (hx : Rdr w g x) :
    Calls Try.prog 91 #[.pointer (some ⟨g, 0, none⟩)] w fun e w' => ∃ v' k a r, e = .returned (.tuple #[v', .int .i64 k]) ∧ FrE w' w.heap.size v' a ∧ OneOut x k a r ∧ Rdr w' g r ∧ Chg g w w' := by
  have HX := Lib.hid hx
  have hlt := hx.lt
  have hz := blk1 w (.cells #[.slice none 0 0, .int .i64 0, .int .i64 0, .slice none 0 0] 47)
  have HZ := Lib.hid hz
  clear hx hz
  go_enter Try.func91, Try.ntmps91
  go_wp2_with fail
  refine (rbytes_any g 65636 x _ (HX.out.ext (by with_reducible (repeat (first | exact Ext.rfl_ _ | assumption | refine Ext.drew ?_ | refine Ext.drewN ?_ _ | refine Ext.alloc ?_ _ | refine Ext.trans ?_ (by assumption))))) (by decide)).mono ?_
  rintro e w1 ⟨A1, n1, c1, k1, y1, r1, rfl, ho1, hown1, hrd1, hnc1, hi1, hr1, hc1⟩
  have HZ1 := Lib.hid (hc1.blk HZ.out (by omega))
  have hch1 : Chg g w w1 := (Chg.of_ext (Ext.alloc (Ext.rfl_ w) _)).trans hc1
  have hw1 : w.heap.size < w1.heap.size := by have := hc1.size; simp at this; omega
  have HCH1 := Lib.hid hch1
  have HR1 := Lib.hid hr1
  have HO1 := Lib.hid ho1
  have HRD1 := Lib.hid hrd1
  clear HZ hc1 hown1 hi1 hch1 hr1 ho1 hrd1
  obtain ⟨z0, z1, z2, z3, y0, yy1, y2, y3⟩ := cells4 HZ1.out
  by_cases q1 : k1 = 0
  · subst q1
    have hgb : getB 65636 x = some (y1, r1) := by
      rcases HO1.out with ⟨_, h⟩ | ⟨h, _⟩
      · exact h
      · exact absurd rfl h
    have hn1 : n1 ≤ B40 := by rw [← HRD1.out.1]; have := getB_le hgb; unfold B40; omega
    have HGB := Lib.hid hgb
    clear hgb z0 z1 z2 z3 y0 yy1 y2 y3
    go_wp2_with fail
    refine (read_any A1 n1 c1 y1 _ HRD1.out hn1).mono ?_
    rintro e w2 ⟨v2, rfl, hf2, hw2⟩
    have HZ2 := Lib.hid (hw2.blk HZ1.out)
    have HF2 := Lib.hid hf2
    obtain ⟨A2, n2, c2, B2, m2, d2, rfl, _⟩ := hf2
    have HR2 := Lib.hid (HR1.out.ext hw2)
    have HCH2 := Lib.hid (HCH1.out.ext hw2)
    have hw2s : w.heap.size < w2.heap.size := Nat.lt_of_lt_of_le hw1 hw2.size
    obtain ⟨z0, z1, z2, z3, y0, yy1, y2, y3⟩ := cells4 HZ2.out
    clear hw2
    go_wp2
    refine bodyPost_ret (v := .tuple #[.agg #[.slice A2 n2 c2, .int .i64 (rdE y1).seq, .int .i64 (rdE y1).kind, .slice B2 m2 d2], .int .i64 (rdN y1)]) (by simp [results, Try.f91, go_sem, z0, z1, z2, z3]) rfl ?_
    refine ⟨_, rdN y1, rdE y1, r1, rfl, ?_, ?_, ?_, ?_⟩
    · exact (HF2.out.chgN HZ2.out (by decide) four_no (((((Chg.rfl_ _ _).setCell 0 _).setCell 1 _).setCell 2 _).setCell 3 _)).mono (Nat.le_of_lt hw1)
    · cases hre : readE y1 with
      | none => exact .inr ⟨by rw [(rd_bad hre).2]; decide, (rd_bad hre).1, .inr ⟨y1, HGB.out, hre⟩⟩
      | some a => exact .inl ⟨(rd_ok hre).2, y1, HGB.out, by rw [(rd_ok hre).1]; exact hre⟩
    · exact HR2.out.chgN HZ2.out (by decide) four_no (by omega) (((((Chg.rfl_ _ _).setCell 0 _).setCell 1 _).setCell 2 _).setCell 3 _)
    · exact ((((HCH2.out.setNew (Nat.le_refl _) _).setNew (Nat.le_refl _) _).setNew (Nat.le_refl _) _).setNew (Nat.le_refl _) _)
  · have q1' : (k1 != 0) = true := by simpa using q1
    have hgb : getB 65636 x = none ∧ r1 = x := by
      rcases HO1.out with ⟨h, _⟩ | ⟨_, h, _, h2⟩
      · exact absurd h q1
      · exact ⟨h, h2⟩
    have HGB := Lib.hid hgb
    have HQ1 := Lib.hid q1
    clear hgb q1
    go_wp2
    refine bodyPost_ret (v := .tuple #[.agg #[.slice none 0 0, .int .i64 0, .int .i64 0, .slice none 0 0], .int .i64 k1]) (by simp [results, Try.f91, go_sem, z0, z1, z2, z3]) rfl ?_
    refine ⟨_, k1, ent0, r1, rfl, FrE.zero _ _, .inr ⟨HQ1.out, rfl, .inl HGB.out.1⟩, ?_, ?_⟩
    · exact HR1.out.chgN HZ1.out (by decide) four_no (by omega) (((((Chg.rfl_ _ _).setCell 0 _).setCell 1 _).setCell 2 _).setCell 3 _)
    · exact ((((HCH1.out.setNew (Nat.le_refl _) _).setNew (Nat.le_refl _) _).setNew (Nat.le_refl _) _).setNew (Nat.le_refl _) _)

theorem OwnL.chgN {w w' : World} {z base : Nat} {v : Value} {xs : List Ent} {cs : Array Value} {t : TypeId} {fr : Nat × Nat} (h : OwnL w base v xs) (hg : w.heap[z]? = some (.cells cs t fr)) (ht : t ≠ 5) (hcs : ∀ (i : Nat) (k : Int), cs[i]? ≠ some (Value.int .u8 k)) (hne : v.ownBlock ≠ some z) (hc : Chg z w w') : OwnL w' base v xs := by
  obtain ⟨hs, hl, ho, hr⟩ := h
  refine ⟨hs, hl, World.ownsRow.kept ho hc (.inr hne), fun k h1 h2 => ?_⟩
  obtain ⟨⟨A, n, c, A', n', c', hv, r1, r2, rest⟩, a1, a2⟩ := hr k h1 h2
  have apt : ∀ (A : Option Addr) (n : Nat), Apt w base A n → Apt w' base A n := fun A n ha hn a e => by
    rcases ha hn a e with h | ⟨cs', fr', h⟩
    · exact .inl h
    · refine .inr ⟨cs', fr', (hc.block _ (Array.getElem?_eq_some_iff.1 h).1 (fun e2 => ?_)).trans h⟩
      rw [Option.some.inj e2, hg] at h
      simp at h; exact ht h.2.1
  exact ⟨⟨A, n, c, A', n', c', hv, r1.chgN hg hcs hc, r2.chgN hg hcs hc, rest⟩, apt _ _ a1, apt _ _ a2⟩
theorem OwnL.ne {w : World} {z base : Nat} {v : Value} {xs : List Ent} {cs : Array Value} {t : TypeId} {fr : Nat × Nat} (h : OwnL w base v xs) (hg : w.heap[z]? = some (.cells cs t fr)) (ht : t ≠ 47) : v.ownBlock ≠ some z := by
  obtain ⟨hs, hl, ho, hr⟩ := h
  rcases ho.2 with ⟨rfl, _⟩ | ⟨g', cap, cur, rfl, _, hg', _⟩
  · intro e; cases e
  · intro e
    simp [Value.ownBlock] at e
    subst e
    rw [hg] at hg'; simp at hg'; exact ht hg'.2.1
theorem one_no {A : Option Addr} {n c : Nat} : ∀ (i : Nat) (z : Int), (#[Value.slice A n c] : Array Value)[i]? ≠ some (.int .u8 z) := by
  intro i z
  match i with
  | 0 => simp
  | i + 1 => simp
theorem OwnL.chgR {w w' : World} {g base : Nat} {v : Value} {xs : List Ent} {y : Bs} (h : OwnL w base v xs) (hr : Rdr w g y) (hc : Chg g w w') : OwnL w' base v xs := by
  obtain ⟨b, o, n, c, hg, _⟩ := hr
  exact h.chgN hg (by decide) one_no (h.ne hg (by decide)) hc
theorem Chg.grownNew {g : Nat} {a w w' : World} {row : Option Nat} (h : Chg g a w) (hg : w.grownBy w' row) (hr : ∀ k, row = some k → a.heap.size ≤ k) : Chg g a w' :=
  ⟨hg.os.trans h.os, hg.tape.trans h.tape, hg.output.trans h.output, Nat.le_trans h.size hg.size, fun k hk hne => (hg.block k (Nat.lt_of_lt_of_le hk h.size) (fun e => by have := hr k e.symm; omega)).trans (h.block k hk hne)⟩
theorem OwnL.rowE {w : World} {base : Nat} {v : Value} {xs : List Ent} (h : OwnL w base v xs) : ∀ k, v.ownBlock = some k → ∃ cs fr, w.heap[k]? = some (.cells cs 47 fr) := by
  obtain ⟨hs, hl, ho, hr⟩ := h
  rcases ho.2 with ⟨rfl, _⟩ | ⟨g', cap, cur, rfl, _, hg', _⟩
  · intro k e; cases e
  · intro k e; simp [Value.ownBlock] at e; subst e; exact ⟨_, _, hg'⟩
theorem OwnF.chgN {w w' : World} {z base : Nat} {v : Value} {xs : List Ent} {cs : Array Value} {t : TypeId} {fr : Nat × Nat} (h : OwnF w base v xs) (hg : w.heap[z]? = some (.cells cs t fr)) (ht : t ≠ 5) (hcs : ∀ (i : Nat) (k : Int), cs[i]? ≠ some (Value.int .u8 k)) (hne : v.ownBlock ≠ some z) (hc : Chg z w w') : OwnF w' base v xs := by
  obtain ⟨hs, hl, ho, hr⟩ := h
  exact ⟨hs, hl, World.ownsRow.kept ho hc (.inr hne), fun k h1 h2 => (hr k h1 h2).chgN hg ht hcs hc⟩
theorem OwnF.ne {w : World} {z base : Nat} {v : Value} {xs : List Ent} {cs : Array Value} {t : TypeId} {fr : Nat × Nat} (h : OwnF w base v xs) (hg : w.heap[z]? = some (.cells cs t fr)) (ht : t ≠ 47) : v.ownBlock ≠ some z := h.ownL.ne hg ht
theorem OwnF.chgR {w w' : World} {g base : Nat} {v : Value} {xs : List Ent} {y : Bs} (h : OwnF w base v xs) (hr : Rdr w g y) (hc : Chg g w w') : OwnF w' base v xs := by
  obtain ⟨b, o, n, c, hg, _⟩ := hr
  exact h.chgN hg (by decide) one_no (h.ne hg (by decide)) hc
theorem OwnF.rowE {w : World} {base : Nat} {v : Value} {xs : List Ent} (h : OwnF w base v xs) : ∀ k, v.ownBlock = some k → ∃ cs fr, w.heap[k]? = some (.cells cs 47 fr) := h.ownL.rowE
theorem Rdr.grown {w w' : World} {g : Nat} {x : Bs} {row : Option Nat} (h : Rdr w g x) (hg : w.grownBy w' row) (hr : ∀ k, row = some k → ∃ cs fr, w.heap[k]? = some (.cells cs 47 fr)) : Rdr w' g x := by
  obtain ⟨b, o, n, c, h1, ⟨h2, cs, fr, h3⟩, h4⟩ := h
  have hgk : w'.heap[g]? = _ := (hg.block g (Array.getElem?_eq_some_iff.1 h1).1 (fun e => by obtain ⟨cs', fr', h5⟩ := hr g e.symm; rw [h1] at h5; simp at h5)).trans h1
  have hbk : w'.heap[b]? = w.heap[b]? := hg.block b (Array.getElem?_eq_some_iff.1 h3).1 (fun e => by obtain ⟨cs', fr', h5⟩ := hr b e.symm; rw [h3] at h5; simp at h5)
  refine ⟨b, o, n, c, hgk, ⟨⟨h2.1, fun hn => ?_⟩, cs, fr, hbk.trans h3⟩, h4⟩
  obtain ⟨b', o', e, hc⟩ := h2.2 hn
  cases e
  refine ⟨b, o, rfl, fun j hj => ?_⟩
  have := hc j hj
  unfold World.cell? at *
  rw [hbk]; exact this
theorem FrE.elt {w : World} {base base' : Nat} {A : Option Addr} {n c : Nat} {B : Option Addr} {m d : Nat} {x : Ent} (h : FrE w base' (.agg #[.slice A n c, .int .i64 x.seq, .int .i64 x.kind, .slice B m d]) x) : Elt w base ⟨A, n, c, B, m, d⟩ x := by
  have hr := h.rd
  obtain ⟨A', n', c', B', m', d', hv, o1, o2, _⟩ := h
  simp at hv
  obtain ⟨⟨rfl, rfl, rfl⟩, ⟨rfl, rfl, rfl⟩⟩ := hv
  exact ⟨hr, Apt.own o1, Apt.own o2⟩

/-- The entries of bytes, one behind the other. -/
def getEs : Nat → Bs → Option (List Ent × Bs)
  | 0, x => some ([], x)
  | k + 1, x => match getB 65636 x with
    | none => none
    | some (y, r) => match readE y with
      | none => none
      | some a => (getEs k r).map fun p => (a :: p.1, p.2)
def GE (many : Nat) (x : Bs) (es : List Ent) (r : Bs) : Prop := es.length ≤ many ∧ getEs many x = (getEs (many - es.length) r).map fun p => (es ++ p.1, p.2)
theorem GE.start (many : Nat) (x : Bs) : GE many x [] x := ⟨Nat.zero_le _, by cases h : getEs many x <;> simp [h]⟩
theorem GE.step {many : Nat} {x : Bs} {es : List Ent} {r y r' : Bs} {a : Ent} (h : GE many x es r) (hl : es.length < many) (hb : getB 65636 r = some (y, r')) (hr : readE y = some a) : GE many x (es ++ [a]) r' := by
  refine ⟨by simp; omega, ?_⟩
  rw [h.2, show many - es.length = (many - (es ++ [a]).length) + 1 from by simp; omega, getEs, hb]
  simp only [hr]
  cases getEs (many - (es ++ [a]).length) r' <;> simp
theorem GE.bad {many : Nat} {x : Bs} {es : List Ent} {r : Bs} {k : Int} {a : Ent} {r' : Bs} (h : GE many x es r) (hl : es.length < many) (ho : OneOut r k a r') (hk : k ≠ 0) : getEs many x = none := by
  rw [h.2, show many - es.length = (many - es.length - 1) + 1 from by omega, getEs]
  rcases ho with ⟨h0, _⟩ | ⟨_, _, h1 | ⟨y, h1, h2⟩⟩
  · exact absurd h0 hk
  · rw [h1]; rfl
  · rw [h1]; simp only [h2]; rfl
theorem GE.end_ {many : Nat} {x : Bs} {es : List Ent} {r : Bs} (h : GE many x es r) (hl : many ≤ es.length) : getEs many x = some (es, r) := by
  rw [h.2, show many - es.length = 0 from by omega, getEs]; simp

set_option maxRecDepth 100000 in
set_option maxHeartbeats 4000000 in
theorem take1_any (g z many : Nat) (x : Bs) (w : World) (hx : Rdr w g x) (hz : w.heap[z]? = some (.cells #[.func (.func 91) #[] #[]] 125 (0, 0))) (hm : many ≤ 65536) :
    Calls Try.prog 98 #[.pointer (some ⟨g, 0, none⟩), .int .i64 many, .pointer (some ⟨z, 0, none⟩)] w fun e w' => ∃ A n c k, e = .returned (.tuple #[.slice A n c, .int .i64 k]) ∧
      ((k = 0 ∧ ∃ l r, getEs many x = some (l, r) ∧ OwnF w' w.heap.size (.slice A n c) l ∧ Rdr w' g r) ∨ (k ≠ 0 ∧ getEs many x = none)) ∧ (∃ r, Rdr w' g r) ∧ Chg g w w' := by
  have hzg : z ≠ g := by
    rintro rfl
    obtain ⟨b, o, n, c, hg, _⟩ := hx
    rw [hz] at hg; simp at hg
  have HX := Lib.hid hx
  have HZ := Lib.hid hz
  have hzl : z < w.heap.size := (Array.getElem?_eq_some_iff.1 hz).1
  have hgl := hx.lt
  clear hx hz
  go_enter Try.func98, Try.ntmps98
  go_wp2
  go_loopw [5, 6] (fun v ev wr => ∃ A n c k es r, v = .slice A n c ∧ ev = .int .i64 k ∧ n ≤ many ∧ Hid (es.length = n) ∧ Hid (OwnF wr w.heap.size (.slice A n c) es) ∧ Hid (Rdr wr g r) ∧ Hid (Chg g w wr) ∧ Hid ((k = 0 ∧ GE many x es r) ∨ (k ≠ 0 ∧ getEs many x = none)))
    (fun v _ _ => match v with | .slice _ n _ => many - n | _ => 0)
  case atStart => exact ⟨none, 0, 0, 0, [], x, rfl, rfl, Nat.zero_le _, Lib.hid rfl, Lib.hid (OwnF.nil _ _), HX, Lib.hid (Chg.rfl_ _ _), Lib.hid (.inl ⟨rfl, GE.start _ _⟩)⟩
  case round =>
    obtain ⟨A, n, c, k, es, r, rfl, rfl, hn, hl, ho, hr, hch, hge⟩ := hrel
    by_cases c1 : (n : Int) < (many : Int)
    · by_cases c2 : k = 0
      · subst c2
        have hG : GE many x es r := by
          rcases hge.out with ⟨_, h⟩ | ⟨h, _⟩
          · exact h
          · exact absurd rfl h
        have HG := Lib.hid hG
        have hz2 := hch.out.blk HZ.out hzg
        have hzc : wr.cell? ⟨z, 0, none⟩ = some (.func (.func 91) #[] #[]) := by simp [World.cell?, hz2]
        have hgr : g < wr.heap.size := hr.out.lt
        have hzr : z < wr.heap.size := (Array.getElem?_eq_some_iff.1 hz2).1
        have HT := Lib.hid (blk1 wr (.cells #[.slice none 0 0, .int .i64 0, .int .i64 0, .slice none 0 0] 47))
        clear hG hz2 hge
        go_wp2_with fail
        refine (lists1_any g r _ (hr.out.ext (by with_reducible (repeat (first | exact Ext.rfl_ _ | assumption | refine Ext.drew ?_ | refine Ext.drewN ?_ _ | refine Ext.alloc ?_ _ | refine Ext.trans ?_ (by assumption)))))).mono ?_
        rintro e w1 ⟨v1, k1, a1, r1, rfl, hf1, hone, hr1, hc1⟩
        have HF1 := Lib.hid hf1
        obtain ⟨A1, n1, c1', B1, m1, d1, rfl, _⟩ := hf1
        have HT1 := Lib.hid (hc1.blk HT.out (by omega))
        have HO1 := Lib.hid ((ho.out.ext (Ext.alloc (Ext.rfl_ _) _)).chgR (hr.out.ext (Ext.alloc (Ext.rfl_ _) _)) hc1)
        have HCH1 := Lib.hid (hch.out.trans ((Chg.of_ext (Ext.alloc (Ext.rfl_ _) _)).trans hc1))
        have HR1 := Lib.hid hr1
        have HONE := Lib.hid hone
        have hw1 : wr.heap.size < w1.heap.size := by have := hc1.size; simp at this; omega
        have hown := (ho.out.lt)
        have hown2 := Lib.hid hch.out.size
        have HOWN := Lib.hid hown
        obtain ⟨z0, z1, z2, z3, y0, y1, y2, y3⟩ := cells4 HT1.out
        clear hc1 hr1 hone hzc ho hr hch HT hown
        have hwr : w.heap.size ≤ wr.heap.size := hown2.out
        obtain ⟨W1, hW1⟩ : ∃ W, W = (((w1.setCell ⟨wr.heap.size, 0, none⟩ (.slice A1 n1 c1')).setCell ⟨wr.heap.size, 1, none⟩ (.int .i64 a1.seq)).setCell ⟨wr.heap.size, 2, none⟩ (.int .i64 a1.kind)).setCell ⟨wr.heap.size, 3, none⟩ (.slice B1 m1 d1) := ⟨_, rfl⟩
        have hcw : Chg wr.heap.size w1 W1 := by rw [hW1]; exact ((((Chg.rfl_ _ _).setCell 0 _).setCell 1 _).setCell 2 _).setCell 3 _
        have hsz : W1.heap.size = w1.heap.size := by rw [hW1]; simp
        have hfw : FrE W1 w.heap.size (.agg (cellsE ⟨A1, n1, c1', B1, m1, d1⟩ a1).toArray) a1 := (HF1.out.chgN HT1.out (by decide) four_no hcw).low (by rw [World.size_alloc]; omega)
        have HFW := Lib.hid hfw
        have HSW := Lib.hid hsz
        have HOW := Lib.hid (HO1.out.chgN HT1.out (by decide) four_no (fun e => by have := (HOWN.out _ e).2; omega) hcw)
        have HRW := Lib.hid (HR1.out.chgN HT1.out (by decide) four_no (by omega) hcw)
        have HCW : Hid (Chg g w W1) := by rw [hW1]; exact Lib.hid ((((HCH1.out.setNew hwr _).setNew hwr _).setNew hwr _).setNew hwr _)
        have hbs : w.heap.size ≤ W1.heap.size := by rw [hsz]; omega
        have HBS := Lib.hid hbs
        have hes : es.length ≤ 1000000 := by rw [hl.out]; omega
        have HES := Lib.hid hes
        have HLT := Lib.hid (show es.length < many from by rw [hl.out]; omega)
        clear hcw hsz hfw hbs hes
        subst hW1
        go_wp2_with (at_builtin; refine wp_appF rfl _ _ rfl w.heap.size _ es rfl _ _ ⟨A1, n1, c1', B1, m1, d1⟩ a1 rfl HOW.out HFW.out w1.heap.size HSW.out rfl HES.out HBS.out ?_; intro v5 w5 o5 kx5 g5; have hc5 : Chg g w w5 := Chg.grownNew (HCW.out.ext (Ext.alloc (Ext.rfl_ _) _)) g5 (fun k hk => (HOWN.out k hk).1); have hr5 : Rdr w5 g r1 := (HRW.out.ext (Ext.alloc (Ext.rfl_ _) _)).grown g5 (OwnF.rowE (HOW.out.ext (Ext.alloc (Ext.rfl_ _) _))); have HO5 := Lib.hid o5; obtain ⟨A5, n5, c5, rfl, hl5, r5, _⟩ := o5.ownL.formN (by rw [List.length_append]; have := HES.out; unfold B41; simp; omega); have HC5 := Lib.hid hc5; have HR5 := Lib.hid hr5; have HN5 := Lib.hid r5.1; clear g5 o5 hc5 hr5 r5)
        have hn5 : n5 = n + 1 := by have := HN5.out; rw [List.length_append, hl.out] at this; simpa using this.symm
        go_roundw
        case rel =>
          refine ⟨A5, n5, c5, k1, es ++ [a1], r1, rfl, rfl, by omega, HN5, HO5, HR5, HC5, Lib.hid ?_⟩
          rcases HONE.out with ⟨h0, y, hy1, hy2⟩ | ⟨h0, _⟩
          · exact .inl ⟨h0, HG.out.step HLT.out hy1 hy2⟩
          · exact .inr ⟨h0, HG.out.bad HLT.out HONE.out h0⟩
        case measure => dsimp only; omega
      · have c2' : (k == 0) = false := by simpa using c2
        have hnone : getEs many x = none := by
          rcases hge.out with ⟨h, _⟩ | ⟨_, h⟩
          · exact absurd h c2
          · exact h
        have HNONE := Lib.hid hnone
        have C2 := Lib.hid c2
        clear hnone c2
        go_wp2
        go_ret2
        exact ⟨A, n, c, k, rfl, .inr ⟨C2.out, HNONE.out⟩, ⟨r, hr.out⟩, hch.out⟩
    · obtain rfl : n = many := by omega
      have hres : (k = 0 ∧ ∃ l r, getEs n x = some (l, r) ∧ OwnF wr w.heap.size (.slice A n c) l ∧ Rdr wr g r) ∨ (k ≠ 0 ∧ getEs n x = none) := by
        rcases hge.out with ⟨h0, h⟩ | h
        · exact .inl ⟨h0, es, r, h.end_ (by rw [hl.out]; exact Nat.le_refl _), ho.out, hr.out⟩
        · exact .inr h
      have HRES := Lib.hid hres
      clear hres hge
      go_wp2
      go_ret2
      exact ⟨A, n, c, k, rfl, HRES.out, ⟨r, hr.out⟩, hch.out⟩

theorem getEs_len {k : Nat} {x : Bs} {l : List Ent} {r : Bs} (h : getEs k x = some (l, r)) : l.length = k := by
  induction k generalizing x l r with
  | zero => simp [getEs] at h; rw [h.1]; rfl
  | succ k ih =>
    rw [getEs] at h
    cases h1 : getB 65636 x with
    | none => rw [h1] at h; cases h
    | some p =>
      obtain ⟨y, q⟩ := p
      rw [h1] at h
      simp only at h
      cases h2 : readE y with
      | none => rw [h2] at h; cases h
      | some a =>
        rw [h2] at h
        simp only at h
        cases h3 : getEs k q with
        | none => rw [h3] at h; cases h
        | some p =>
          obtain ⟨l', r'⟩ := p
          rw [h3] at h
          simp at h
          rw [← h.1, List.length_cons, ih h3]

/-- The list that bytes begin with, and what is behind it. -/
def getL (x : Bs) : Option (List Ent × Bs) := match getN x with
  | none => none
  | some (n, r) => if 65536 < n then none else getEs n r
theorem getL_some {x : Bs} {n : Nat} {r : Bs} (h : getN x = some (n, r)) (hn : ¬ 65536 < n) : getL x = getEs n r := by unfold getL; rw [h]; simp [hn]
theorem getL_long {x : Bs} {n : Nat} {r : Bs} (h : getN x = some (n, r)) (hn : 65536 < n) : getL x = none := by unfold getL; rw [h]; simp [hn]
theorem getL_none {x : Bs} (h : getN x = none) : getL x = none := by unfold getL; rw [h]

set_option maxRecDepth 100000 in
set_option maxHeartbeats 4000000 in
theorem tryL_any (g z : Nat) (x : Bs) (w : World) (hx : Rdr w g x) (hz : w.heap[z]? = some (.cells #[.func (.func 91) #[] #[]] 125 (0, 0))) :
    Calls Try.prog 97 #[.pointer (some ⟨g, 0, none⟩), .int .i64 65536, .func (.func 98) #[] #[.pointer (some ⟨z, 0, none⟩)]] w fun e w' => ∃ A n c k, e = .returned (.tuple #[.slice A n c, .int .i64 k]) ∧
      ((k = 0 ∧ ∃ l r b0, getL x = some (l, r) ∧ w.heap.size ≤ b0 ∧ OwnF w' b0 (.slice A n c) l ∧ Rdr w' g r) ∨ (k ≠ 0 ∧ getL x = none ∧ A = none ∧ n = 0 ∧ c = 0)) ∧ (∃ r, Rdr w' g r) ∧ Chg g w w' := by
  have HX := Lib.hid hx
  obtain ⟨b, o, m, c, hc, hf, hr, hnc, hn, hg, hty⟩ := hx.cellsT
  have hlt := hx.lt
  have hzl : z < w.heap.size := (Array.getElem?_eq_some_iff.1 hz).1
  have HZ := Lib.hid hz
  have HG := Lib.hid hg
  have hR0 : Rdr (w.alloc (.cells #[.slice (some ⟨b, o, none⟩) m c] 118)) w.heap.size x := ⟨b, o, m, c, heap_alloc_new w _, ⟨hr.ext (by with_reducible (repeat (first | exact Ext.rfl_ _ | assumption | refine Ext.drew ?_ | refine Ext.drewN ?_ _ | refine Ext.alloc ?_ _ | refine Ext.trans ?_ (by assumption)))), hty.ext (by with_reducible (repeat (first | exact Ext.rfl_ _ | assumption | refine Ext.drew ?_ | refine Ext.drewN ?_ _ | refine Ext.alloc ?_ _ | refine Ext.trans ?_ (by assumption))))⟩, hnc, hn⟩
  have HR0 := Lib.hid hR0
  clear hr hg hn hx hR0 hz hty
  cases hN : getN x with
  | none =>
    have HN := Lib.hid hN
    have HL := Lib.hid (getL_none hN)
    clear hN
    go_enter Try.func97, Try.ntmps97
    go_wp2_with (first | (go_at_call 86; refine (closed_any g x _ HX.out).mono ?_; rintro e w' ⟨rfl, rfl⟩) | (go_at_call 68; refine (rnum_bad w.heap.size x _ HR0.out HN.out).mono ?_; rintro e w' ⟨rfl, rfl⟩))
    go_ret2
    exact ⟨none, 0, 0, 4, rfl, .inr ⟨by decide, HL.out, rfl, rfl, rfl⟩, ⟨x, HX.out.ext (by with_reducible (repeat (first | exact Ext.rfl_ _ | assumption | refine Ext.drew ?_ | refine Ext.drewN ?_ _ | refine Ext.alloc ?_ _ | refine Ext.trans ?_ (by assumption))))⟩, Chg.of_ext (by with_reducible (repeat (first | exact Ext.rfl_ _ | assumption | refine Ext.drew ?_ | refine Ext.drewN ?_ _ | refine Ext.alloc ?_ _ | refine Ext.trans ?_ (by assumption))))⟩
  | some p =>
    obtain ⟨n, r⟩ := p
    have hn64 := getN_lt hN
    have HN := Lib.hid hN
    by_cases hmn : 65536 < n
    · have HL := Lib.hid (getL_long hN hmn)
      clear hN
      go_enter Try.func97, Try.ntmps97
      go_wp2_with (first | (go_at_call 86; refine (closed_any g x _ HX.out).mono ?_; rintro e w' ⟨rfl, rfl⟩) | (go_at_call 68; refine (rnum_ok w.heap.size x r n _ HR0.out HN.out).mono ?_; rintro e w1 ⟨rfl, hr1, hch1⟩))
      go_ret2
      have he : Ext w w1 := (Ext.alloc (Ext.rfl_ w) _).chg hch1 (Nat.le_refl _)
      exact ⟨none, 0, 0, 3, rfl, .inr ⟨by decide, HL.out, rfl, rfl, rfl⟩, ⟨x, HX.out.ext he⟩, Chg.of_ext he⟩
    · have HL := Lib.hid (getL_some hN hmn)
      have hwn : IntKind.i64.wrap (n : Int) = (n : Int) := by rw [IntKind.wrap_i64]; omega
      clear hN
      go_enter Try.func97, Try.ntmps97
      go_wp2_with (go_at_call 86; refine (closed_any g x _ HX.out).mono ?_; rintro e w' ⟨rfl, rfl⟩)
      refine (rnum_ok w.heap.size x r n _ HR0.out HN.out).mono ?_
      rintro e w1 ⟨rfl, hr1, hch1⟩
      have hch0 : Chg w.heap.size w w1 := (Chg.of_ext (Ext.alloc (Ext.rfl_ w) _)).trans hch1
      have HCH0 := Lib.hid hch0
      have HR1 := Lib.hid hr1
      clear hch1 hch0 hr1
      go_wp2_with fail
      refine (take1_any w.heap.size z n r _ HR1.out (HCH0.out.blk HZ.out (by omega)) (by omega)).mono ?_
      rintro e w2 ⟨A2, n2, c2, k2, rfl, hres, ⟨r2, hr2⟩, hch2⟩
      have HRES := Lib.hid hres
      have hch : Chg w.heap.size w w2 := HCH0.out.trans hch2
      have HE : Ext w w2 := Ext.chg (Ext.rfl_ w) hch (Nat.le_refl _)
      have hs1 : w.heap.size ≤ w1.heap.size := HCH0.out.size
      have hg2 : w2.heap[g]? = some (.cells #[.slice (some ⟨b, o, none⟩) m c] 118 (0, 0)) := (hch.block g hlt (fun e => by cases e; omega)).trans HG.out
      have HG2 := Lib.hid hg2
      have HR2 := Lib.hid hr2
      obtain ⟨b2, o2, m2, d2, hc2, hf2, _, _, _, _, _⟩ := hr2.cellsT
      have hcg2 : w2.cell? ⟨g, 0, none⟩ = some (.slice (some ⟨b, o, none⟩) m c) := by simp [World.cell?, hg2]
      have hfg2 : w2.frozen? ⟨g, 0, none⟩ = false := by simp [World.frozen?, hg2]
      clear hres hch2 hg2 hr2 hch
      by_cases hk : k2 = 0
      · subst hk
        have hyes : ∃ l r3, getEs n r = some (l, r3) ∧ OwnF w2 w1.heap.size (.slice A2 n2 c2) l ∧ Rdr w2 w.heap.size r3 := by
          rcases HRES.out with ⟨_, h⟩ | ⟨h, _⟩
          · exact h
          · exact absurd rfl h
        obtain ⟨l, r3, hl, ho, hr3⟩ := hyes
        obtain ⟨b3, o3, m3, d3, hc3, hf3, hd3, hnc3, hn3, hg3, hty3⟩ := hr3.cellsT
        have HO := Lib.hid ho
        have HLL := Lib.hid hl
        have HD3 := Lib.hid hd3
        have HT3 := Lib.hid hty3
        have HN3 := Lib.hid hn3
        clear ho hl hr3 hd3 hty3 hn3 hg3 hc2 hf2
        go_wp2
        go_ret2
        refine ⟨A2, n2, c2, 0, rfl, .inl ⟨rfl, l, r3, _, by rw [HL.out]; exact HLL.out, hs1, ?_, Rdr.set HG2.out HD3.out HT3.out hnc3 HN3.out⟩, ⟨r3, Rdr.set HG2.out HD3.out HT3.out hnc3 HN3.out⟩, (Chg.of_ext HE).setCell 0 _⟩
        refine OwnF.chgN HO.out HG2.out (by decide) one_no (OwnF.ne HO.out HG2.out (by decide)) ((Chg.rfl_ _ _).setCell 0 _)
      · have hk' : (k2 == 0) = false := by simpa using hk
        have hk'' : (k2 != 0) = true := by simpa using hk
        have hno : getEs n r = none := by
          rcases HRES.out with ⟨h, _⟩ | ⟨_, h⟩
          · exact absurd h hk
          · exact h
        have HNO := Lib.hid hno
        have HK := Lib.hid hk
        clear hno hk
        go_wp2
        go_ret2
        exact ⟨none, 0, 0, k2, rfl, .inr ⟨HK.out, by rw [HL.out]; exact HNO.out, rfl, rfl, rfl⟩, ⟨x, HX.out.ext HE⟩, Chg.of_ext HE⟩

set_option maxRecDepth 100000 in
set_option maxHeartbeats 1000000 in
theorem takeL_any (g : Nat) (x : Bs) (w : World) (hx : Rdr w g x) :
    Calls Try.prog 90 #[.pointer (some ⟨g, 0, none⟩), .int .i64 65536, .func (.func 91) #[] #[]] w fun e w' => ∃ A n c k, e = .returned (.tuple #[.slice A n c, .int .i64 k]) ∧
      ((k = 0 ∧ ∃ l r b0, getL x = some (l, r) ∧ w.heap.size ≤ b0 ∧ OwnF w' b0 (.slice A n c) l ∧ Rdr w' g r) ∨ (k ≠ 0 ∧ getL x = none ∧ A = none ∧ n = 0 ∧ c = 0)) ∧ (∃ r, Rdr w' g r) ∧ Chg g w w' := by
  have HX := Lib.hid hx
  have hnil := fun (w : World) (f : Fn) (x y : Array Value) => run_eql_func_nil (P := Try.prog) w 125 f x y Try.underlying125
  have HB := Lib.hid (blk1 w (.cells #[.func (.func 91) #[] #[]] 125))
  clear hx
  go_enter Try.func90, Try.ntmps90
  go_wp2_with fail
  refine (tryL_any g w.heap.size x _ (HX.out.ext (by with_reducible (repeat (first | exact Ext.rfl_ _ | assumption | refine Ext.drew ?_ | refine Ext.drewN ?_ _ | refine Ext.alloc ?_ _ | refine Ext.trans ?_ (by assumption))))) HB.out).mono ?_
  rintro e w1 ⟨A1, n1, c1, k1, rfl, hres, hr1, hch1⟩
  have HRES := Lib.hid hres
  have HR1 := Lib.hid hr1
  have HC1 := Lib.hid ((Chg.of_ext (Ext.alloc (Ext.rfl_ w) (.cells #[.func (.func 91) #[] #[]] 125))).trans hch1)
  clear hres hr1 hch1
  go_wp2
  go_ret2
  refine ⟨A1, n1, c1, k1, rfl, ?_, HR1.out, HC1.out⟩
  rcases HRES.out with ⟨h0, l, r, b0, h1, h2, h3⟩ | h
  · exact .inl ⟨h0, l, r, b0, h1, by simp at h2; omega, h3⟩
  · exact .inr h

/-- The list of bytes. -/
def readL (x : Bs) : Option (List Ent) := match getL x with
  | none => none
  | some (l, r) => if r = [] then some l else none
def rdL (x : Bs) : List Ent := (readL x).getD []
def rdLN (x : Bs) : Int := if (readL x).isSome = true then 0 else 4
theorem rdL_bad {x : Bs} (h : readL x = none) : rdL x = [] ∧ rdLN x = 4 := by unfold rdL rdLN; simp [h]
theorem rdL_ok {x : Bs} {l : List Ent} (h : readL x = some l) : rdL x = l ∧ rdLN x = 0 := by unfold rdL rdLN; simp [h]
theorem readL_some {x : Bs} {l : List Ent} (h : getL x = some (l, [])) : readL x = some l := by unfold readL; rw [h]; simp
theorem readL_rest {x : Bs} {l : List Ent} {r : Bs} (h : getL x = some (l, r)) (hr : r ≠ []) : readL x = none := by unfold readL; rw [h]; simp [hr]
theorem readL_none {x : Bs} (h : getL x = none) : readL x = none := by unfold readL; rw [h]
theorem getL_len {x : Bs} {l : List Ent} {r : Bs} (h : getL x = some (l, r)) : l.length ≤ 65536 := by
  unfold getL at h
  cases hn : getN x with
  | none => rw [hn] at h; cases h
  | some p =>
    obtain ⟨n, q⟩ := p
    rw [hn] at h
    simp only at h
    split at h
    · cases h
    · rw [getEs_len h]; omega
theorem rdL_len (x : Bs) : (rdL x).length ≤ 65536 := by
  unfold rdL readL
  cases h : getL x with
  | none => simp
  | some p =>
    obtain ⟨l, r⟩ := p
    simp only
    split
    · exact getL_len h
    · simp

set_option maxRecDepth 100000 in
set_option maxHeartbeats 2000000 in
theorem lists_any (A : Option Addr) (n c : Nat) (x : Bs) (w : World) (hx : Rd w A n x) (hn : n ≤ B40) :
    Calls Try.prog 72 #[.slice A n c] w fun e w' => ∃ v' b0, e = .returned (.tuple #[v', .int .i64 (rdLN x)]) ∧ w.heap.size ≤ b0 ∧ OwnF w' b0 v' (rdL x) ∧ Ext w w' := by
  have HX := Lib.hid hx
  have HN := Lib.hid hn
  clear hx hn
  go_enter Try.func72, Try.ntmps72
  go_wp2_with fail
  refine (open_any A n c x _ (HX.out.ext (by with_reducible (repeat (first | exact Ext.rfl_ _ | assumption | refine Ext.drew ?_ | refine Ext.drewN ?_ _ | refine Ext.alloc ?_ _ | refine Ext.trans ?_ (by assumption))))) HN.out).mono ?_
  rintro e w1 ⟨g, rfl, hg, hr1, hw1⟩
  have HR1 := Lib.hid hr1
  clear hr1
  go_wp2_with fail
  refine (takeL_any g x _ HR1.out).mono ?_
  rintro e w2 ⟨A2, n2, c2, k2, rfl, hres, ⟨r2, hr2⟩, hch2⟩
  have HRES := Lib.hid hres
  have HE2 := Lib.hid (hw1.chg hch2 hg)
  have hs1 := hw1.size
  clear hres hr2 hch2
  by_cases hk : k2 = 0
  · subst hk
    obtain ⟨l, r, b0, hl, hb0, ho, hr⟩ : ∃ l r b0, getL x = some (l, r) ∧ w1.heap.size ≤ b0 ∧ OwnF w2 b0 (.slice A2 n2 c2) l ∧ Rdr w2 g r := by
      rcases HRES.out with ⟨_, h⟩ | ⟨h, _⟩
      · exact h
      · exact absurd rfl h
    have HO := Lib.hid ho
    have HLL := Lib.hid hl
    have HRR := Lib.hid hr
    clear ho hl hr
    by_cases hr0 : r = []
    · subst hr0
      have HOK := Lib.hid (readL_some HLL.out)
      go_wp2_with fail
      refine (rend_any g [] _ HRR.out).mono ?_
      rintro e w3 ⟨rfl, rfl⟩
      rw [if_pos rfl]
      go_wp2
      go_ret2
      exact ⟨_, b0, by rw [(rdL_ok HOK.out).2]; rfl, by omega, by rw [(rdL_ok HOK.out).1]; exact HO.out, HE2.out⟩
    · have HBAD := Lib.hid (readL_rest HLL.out hr0)
      have HR0 := Lib.hid hr0
      clear hr0
      go_wp2_with fail
      refine (rend_any g r _ HRR.out).mono ?_
      rintro e w3 ⟨rfl, rfl⟩
      rw [if_neg HR0.out]
      go_wp2
      go_ret2
      exact ⟨_, b0, by rw [(rdL_bad HBAD.out).2]; rfl, by omega, by rw [(rdL_bad HBAD.out).1]; exact OwnF.nil _ _, HE2.out⟩
  · have hk'' : (k2 != 0) = true := by simpa using hk
    have hno : getL x = none := by
      rcases HRES.out with ⟨h, _⟩ | ⟨_, h, _⟩
      · exact absurd h hk
      · exact h
    have HBAD := Lib.hid (readL_none hno)
    clear hno hk
    go_wp2
    go_ret2
    exact ⟨_, w.heap.size, by rw [(rdL_bad HBAD.out).2]; rfl, Nat.le_refl _, by rw [(rdL_bad HBAD.out).1]; exact OwnF.nil _ _, HE2.out⟩

end Go.Proofs.Ythdahmicjlplcaa
