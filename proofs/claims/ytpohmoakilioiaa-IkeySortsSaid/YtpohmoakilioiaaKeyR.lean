/- Contract of ikey.Read. Conditions: the slice reads. -/
import Derived.Test.YtpohmoakilioiaaKeyC
import Derived.Test.YtpohmoakilioiaaReadC
namespace Go.Proofs.Ytpohmoakilioiaa
set_option linter.unusedSimpArgs false
set_option linter.unusedVariables false
set_option maxRecDepth 100000
open Go.RowKit

def ent0 : Ent := ⟨[], 0, 0, []⟩
/-- The entry of bytes. -/
def readE (x : Bs) : Option Ent :=
  match getB 32 x with
  | none => none
  | some (key, r1) =>
    match getN r1 with
    | none => none
    | some (seq, r2) =>
      match getN r2 with
      | none => none
      | some (kind, r3) =>
        match (if kind = 1 then getB 65536 r3 else some ([], r3)) with
        | none => none
        | some (val, r4) => if r4 = [] ∧ MayE ⟨key, seq, kind, val⟩ then some ⟨key, seq, kind, val⟩ else none
def rdE (x : Bs) : Ent := (readE x).getD ent0
def rdN (x : Bs) : Int := if (readE x).isSome = true then 0 else 4

theorem rd_bad {x : Bs} (h : readE x = none) : rdE x = ent0 ∧ rdN x = 4 := by unfold rdE rdN; simp [h]
theorem rd_ok {x : Bs} {e : Ent} (h : readE x = some e) : rdE x = e ∧ rdN x = 0 := by unfold rdE rdN; simp [h]

/-- A value of type api.Entry whose slices the call itself made, from block 'base' on. -/
def FrE (w : World) (base : Nat) (v : Value) (x : Ent) : Prop :=
  ∃ A n c A' n' c', v = .agg #[.slice A n c, .int .i64 x.seq, .int .i64 x.kind, .slice A' n' c'] ∧ OwnB w base (.slice A n c) x.key ∧ OwnB w base (.slice A' n' c') x.val ∧ Rd w A n x.key ∧ Rd w A' n' x.val ∧
    n ≤ c ∧ n ≤ B47 ∧ n' ≤ c' ∧ n' ≤ B47 ∧ Hi base A n ∧ Hi base A' n'
theorem FrE.rd {w : World} {base : Nat} {v : Value} {x : Ent} (h : FrE w base v x) : RdE w v x := by
  obtain ⟨A, n, c, A', n', c', rfl, _, _, h1, h2, h3, h4, h5, h6, _⟩ := h
  exact ⟨A, n, c, A', n', c', rfl, h1, h2, h3, h4, h5, h6⟩
theorem FrE.zero (w : World) (base : Nat) : FrE w base (.agg #[.slice none 0 0, .int .i64 0, .int .i64 0, .slice none 0 0]) ent0 :=
  ⟨none, 0, 0, none, 0, 0, rfl, OwnB.nil _ _, OwnB.nil _ _, Rd.nil _ _, Rd.nil _ _, Nat.le_refl _, Nat.zero_le _, Nat.le_refl _, Nat.zero_le _, fun h => absurd h (by omega), fun h => absurd h (by omega)⟩

theorem getB_le {most : Nat} {x y r : Bs} (h : getB most x = some (y, r)) : y.length ≤ most := by
  cases hg : getN x with
  | none => rw [getB_num hg] at h; cases h
  | some p =>
    obtain ⟨n, q⟩ := p
    by_cases h1 : most < n
    · rw [getB_long hg h1] at h; cases h
    · by_cases h2 : q.length < n
      · rw [getB_short hg h1 h2] at h; cases h
      · rw [getB_yes hg h1 h2] at h
        cases h
        rw [List.length_take]; omega

def BytesOut (most : Nat) (x : Bs) (k : Int) (y r : Bs) : Prop := (k = 0 ∧ getB most x = some (y, r)) ∨ (k ≠ 0 ∧ getB most x = none ∧ y = [] ∧ r = x)
def NumOut (x : Bs) (v : Nat) (k : Int) (r : Bs) : Prop := (k = 0 ∧ getN x = some (v, r)) ∨ (k ≠ 0 ∧ getN x = none ∧ v = 0 ∧ r = x)

theorem rbytes_any (g most : Nat) (x : Bs) (w : World) (hx : Rdr w g x) (hm : most ≤ B40) :
    Calls Try.prog 55 #[.pointer (some ⟨g, 0, none⟩), .int .i64 most] w fun e w' => ∃ A n c k y r, e = .returned (.tuple #[.slice A n c, .int .i64 k]) ∧ BytesOut most x k y r ∧ OwnB w' w.heap.size (.slice A n c) y ∧ Rd w' A n y ∧ n ≤ c ∧ Hi w.heap.size A n ∧ Rdr w' g r ∧ Chg g w w' := by
  cases h : getB most x with
  | none =>
    refine (rbytes_bad g most x w hx hm h).mono ?_
    rintro e w' ⟨k, rfl, hk, hx'⟩
    exact ⟨none, 0, 0, k, [], x, rfl, .inr ⟨by omega, h, rfl, rfl⟩, OwnB.nil _ _, Rd.nil _ _, Nat.le_refl _, fun h => absurd h (by omega), hx.ext hx', Chg.of_ext hx'⟩
  | some p =>
    obtain ⟨y, r⟩ := p
    refine (rbytes_ok g most x y r w hx hm h).mono ?_
    rintro e w' ⟨v', rfl, ho, hr, hc⟩
    obtain ⟨A, n, c, rfl, h1, h2, h3⟩ := ho.formN
    exact ⟨A, n, c, 0, y, r, rfl, .inl ⟨rfl, h⟩, ho, h2, h1, h3, hr, hc⟩

theorem rnum_any (g : Nat) (x : Bs) (w : World) (hx : Rdr w g x) :
    Calls Try.prog 56 #[.pointer (some ⟨g, 0, none⟩)] w fun e w' => ∃ v k r, e = .returned (.tuple #[.int .u64 (v : Nat), .int .i64 k]) ∧ NumOut x v k r ∧ v < 18446744073709551616 ∧ Rdr w' g r ∧ Chg g w w' := by
  cases h : getN x with
  | none =>
    refine (rnum_bad g x w hx h).mono ?_
    rintro e w' ⟨rfl, rfl⟩
    exact ⟨0, 4, x, rfl, .inr ⟨by omega, h, rfl, rfl⟩, by omega, hx, Chg.rfl_ _ _⟩
  | some p =>
    obtain ⟨v, r⟩ := p
    refine (rnum_ok g x r v w hx h).mono ?_
    rintro e w' ⟨rfl, hr, hc⟩
    exact ⟨v, 0, r, rfl, .inl ⟨rfl, h⟩, getN_lt h, hr, hc⟩

theorem Chg.blk {g k : Nat} {w w' : World} {o : Obj} (h : Chg g w w') (hk : w.heap[k]? = some o) (hne : k ≠ g) : w'.heap[k]? = some o :=
  (h.block k (Array.getElem?_eq_some_iff.1 hk).1 (fun e => hne (by cases e; rfl))).trans hk
theorem Ext.blk {k : Nat} {w w' : World} {o : Obj} (h : Ext w w') (hk : w.heap[k]? = some o) : w'.heap[k]? = some o :=
  ((Ext.below h).block k (Array.getElem?_eq_some_iff.1 hk).1).trans hk
theorem OwnB.chgR {w w' : World} {base g : Nat} {v : Value} {x y : Bs} (h : OwnB w base v x) (hr : Rdr w g y) (hc : Chg g w w') : OwnB w' base v x := by
  obtain ⟨b, o, n, c, hg, _⟩ := hr
  exact h.chg hg (by decide) hc
theorem OwnB.setLow {w : World} {base : Nat} {v : Value} {x : Bs} (h : OwnB w base v x) {p : Addr} (hp : p.block < base) (u : Value) : OwnB (w.setCell p u) base v x := by
  refine World.ownsRow.kept (row := some p.block) h.out ⟨rfl, rfl, rfl, by simp [World.setCell], fun k hk hne => Below.heap_setCell _ _ _ _ (fun e => hne (by rw [e]))⟩ ?_
  rcases h.out.2 with ⟨rfl, _⟩ | ⟨g', cap, cur, rfl, hb, _⟩
  · exact .inl rfl
  · exact .inr (by simp [Value.ownBlock]; omega)
theorem Rd.apart {w : World} {k : Nat} {A : Option Addr} {n : Nat} {y : Bs} {cs : Array Value} {t : TypeId} {fr : Nat × Nat} (h : Rd w A n y) (hg : w.heap[k]? = some (.cells cs t fr)) (hcs : ∀ (i : Nat) (z : Int), cs[i]? ≠ some (Value.int .u8 z)) (hn : 0 < n) : ∀ a, A = some a → a.block ≠ k := by
  intro a ha hb
  obtain ⟨b, o, e, hc⟩ := h.2 hn
  rw [ha] at e
  cases e
  simp only at hb
  subst hb
  have := hc 0 (by rw [h.1]; exact hn)
  simp only [World.cell?, hg, Nat.add_zero] at this
  exact hcs _ _ (by simpa using this)
theorem Rd.setBlk {w : World} {k : Nat} {A : Option Addr} {n : Nat} {y : Bs} {cs : Array Value} {t : TypeId} {fr : Nat × Nat} (h : Rd w A n y) (hg : w.heap[k]? = some (.cells cs t fr)) (hcs : ∀ (i : Nat) (z : Int), cs[i]? ≠ some (Value.int .u8 z)) (o : Nat) (u : Value) : Rd (w.setCell ⟨k, o, none⟩ u) A n y :=
  ⟨h.1, fun hn => by
    obtain ⟨b', o', e, hc⟩ := h.2 hn
    have hne := h.apart hg hcs hn _ e
    refine ⟨b', o', e, fun j hj => ?_⟩
    rw [World.cell?_setCell_other w ⟨k, o, none⟩ ⟨b', o' + j, none⟩ u (fun e' => by cases e'; exact hne rfl)]
    exact hc j hj⟩
theorem four_no {A A' : Option Addr} {n c n' c' : Nat} {s k : Int} : ∀ (i : Nat) (z : Int), (#[Value.slice A n c, .int .i64 s, .int .i64 k, .slice A' n' c'] : Array Value)[i]? ≠ some (.int .u8 z) := by
  intro i z
  match i with
  | 0 => simp
  | 1 => simp
  | 2 => simp
  | 3 => simp
  | i + 4 => simp
theorem Rdr.setBlk {w : World} {g k : Nat} {x : Bs} {cs : Array Value} {t : TypeId} {fr : Nat × Nat} (h : Rdr w g x) (hg : w.heap[k]? = some (.cells cs t fr)) (hcs : ∀ (i : Nat) (z : Int), cs[i]? ≠ some (Value.int .u8 z)) (hne : g ≠ k) (o : Nat) (u : Value) : Rdr (w.setCell ⟨k, o, none⟩ u) g x := by
  obtain ⟨b, o', n, c, h1, h2, h3⟩ := h
  exact ⟨b, o', n, c, (Below.heap_setCell _ _ _ _ hne).trans h1, ⟨h2.1.setBlk hg hcs o u, h2.2.setCell _ _⟩, h3⟩

/-- A value owned reads. -/
theorem FrE.mk_ {w : World} {base : Nat} {A A' : Option Addr} {n c n' c' : Nat} {x : Ent} {s k : Int} (h1 : OwnB w base (.slice A n c) x.key) (h2 : OwnB w base (.slice A' n' c') x.val) (hs : s = x.seq) (hk : k = x.kind) (hn : x.key.length ≤ B47) (hn' : x.val.length ≤ B47) :
    FrE w base (.agg #[.slice A n c, .int .i64 s, .int .i64 k, .slice A' n' c']) x := by
  subst hs hk
  obtain ⟨B, d, e, hd, hr, hi⟩ := h1.form
  obtain ⟨B', d', e', hd', hr', hi'⟩ := h2.form
  cases e
  cases e'
  exact ⟨_, _, _, _, _, _, rfl, h1, h2, hr, hr', hd, hn, hd', hn', hi, hi'⟩

theorem set3 {w : World} {g : Nat} {t : TypeId} {a b c d : Value} (hg : w.heap[g]? = some (.cells #[a, b, c, d] t (0, 0))) (u : Value) : (w.setCell ⟨g, 3, none⟩ u).heap[g]? = some (.cells #[a, b, c, u] t (0, 0)) := by
  simp [World.setCell, Array.getElem?_modify, hg]

/-- The facts of a box of four cells, off its block. -/
theorem cells4 {w : World} {g : Nat} {t : TypeId} {a b c d : Value} (hg : w.heap[g]? = some (.cells #[a, b, c, d] t (0, 0))) :
    w.cell? ⟨g, 0, none⟩ = some a ∧ w.cell? ⟨g, 1, none⟩ = some b ∧ w.cell? ⟨g, 2, none⟩ = some c ∧ w.cell? ⟨g, 3, none⟩ = some d ∧
    w.frozen? ⟨g, 0, none⟩ = false ∧ w.frozen? ⟨g, 1, none⟩ = false ∧ w.frozen? ⟨g, 2, none⟩ = false ∧ w.frozen? ⟨g, 3, none⟩ = false := by
  simp [World.cell?, World.frozen?, hg]

set_option maxRecDepth 100000 in
set_option maxHeartbeats 4000000 in
theorem read_any (A : Option Addr) (n c : Nat) (x : Bs) (w : World) (hx : Rd w A n x) (hn : n ≤ B40) :
    Calls Try.prog 21 #[.slice A n c] w fun e w' => ∃ v', e = .returned (.tuple #[v', .int .i64 (rdN x)]) ∧ FrE w' w.heap.size v' (rdE x) ∧ Ext w w' := by
  have HX := Lib.hid hx
  have HN := Lib.hid hn
  have hz := blk1 w (.cells #[.slice none 0 0, .int .i64 0, .int .i64 0, .slice none 0 0] 25)
  have HZ := Lib.hid hz
  clear hx hn hz
  go_enter Try.func21, Try.ntmps21
  go_wp2_with fail
  refine (open_any A n c x _ (HX.out.ext (by with_reducible (repeat (first | exact Ext.rfl_ _ | assumption | refine Ext.drew ?_ | refine Ext.drewN ?_ _ | refine Ext.alloc ?_ _ | refine Ext.trans ?_ (by assumption))))) HN.out).mono ?_
  rintro e w1 ⟨g, rfl, hg, hr1, hw1⟩
  have e1 : Ext w w1 := (by with_reducible (repeat (first | exact Ext.rfl_ _ | assumption | refine Ext.drew ?_ | refine Ext.drewN ?_ _ | refine Ext.alloc ?_ _ | refine Ext.trans ?_ (by assumption))))
  have HZ1 := Lib.hid (hw1.blk HZ.out)
  have hgw : w.heap.size < g := by simp at hg; omega
  clear HZ hw1 hg
  go_wp2_with fail
  refine (rbytes_any g 32 x _ hr1 (by decide)).mono ?_
  rintro e w2 ⟨A2, n2, c2, k2, y2, r2, rfl, ho2, hown2, hrd2, hnc2, hi2, hr2, hc2⟩
  have e2 : Ext w w2 := e1.chg hc2 (by omega)
  have HZ2 := Lib.hid (hc2.blk HZ1.out (by omega))
  clear HZ1
  go_wp2_with fail
  refine (rnum_any g r2 _ hr2).mono ?_
  rintro e w3 ⟨v3, k3, r3, rfl, ho3, hv3, hr3, hc3⟩
  have e3 : Ext w w3 := e2.chg hc3 (by omega)
  have HZ3 := Lib.hid (hc3.blk HZ2.out (by omega))
  clear HZ2
  go_wp2_with fail
  refine (rnum_any g r3 _ hr3).mono ?_
  rintro e w4 ⟨v4, k4, r4, rfl, ho4, hv4, hr4, hc4⟩
  have e4 : Ext w w4 := e3.chg hc4 (by omega)
  have HZ4 := Lib.hid (hc4.blk HZ3.out (by omega))
  clear HZ3
  have hb2 : k2 ≠ 0 → readE x = none := by
    intro h
    rcases ho2 with ⟨h0, _⟩ | ⟨_, h1, _⟩
    · exact absurd h0 h
    · unfold readE; rw [h1]
  have hb3 : k2 = 0 → k3 ≠ 0 → readE x = none := by
    intro h0 h
    rcases ho2 with ⟨_, h2⟩ | ⟨h2, _⟩
    · rcases ho3 with ⟨h3, _⟩ | ⟨_, h3, _⟩
      · exact absurd h3 h
      · unfold readE; rw [h2]; dsimp only; rw [h3]
    · exact absurd h0 h2
  have hb4 : k2 = 0 → k3 = 0 → k4 ≠ 0 → readE x = none := by
    intro h0 h0' h
    rcases ho2 with ⟨_, h2⟩ | ⟨h2, _⟩
    · rcases ho3 with ⟨_, h3⟩ | ⟨h3, _⟩
      · rcases ho4 with ⟨h4, _⟩ | ⟨_, h4, _⟩
        · exact absurd h4 h
        · unfold readE; rw [h2]; dsimp only; rw [h3]; dsimp only; rw [h4]
      · exact absurd h0' h3
    · exact absurd h0 h2
  have hgood : k2 = 0 → k3 = 0 → k4 = 0 → readE x = (match (if v4 = 1 then getB 65536 r4 else some ([], r4)) with
        | none => none
        | some (val, r5) => if r5 = [] ∧ MayE ⟨y2, v3, v4, val⟩ then some ⟨y2, v3, v4, val⟩ else none) := by
    intro h0 h0' h0''
    rcases ho2 with ⟨_, h2⟩ | ⟨h2, _⟩
    · rcases ho3 with ⟨_, h3⟩ | ⟨h3, _⟩
      · rcases ho4 with ⟨_, h4⟩ | ⟨h4, _⟩
        · unfold readE; rw [h2]; dsimp only; rw [h3]; dsimp only; rw [h4]
        · exact absurd h0'' h4
      · exact absurd h0' h3
    · exact absurd h0 h2
  have hown3 := hown2.chgR hr2 hc3
  have hown4 := (hown3.chgR hr3 hc4).mono (show w.heap.size + 1 ≤ w1.heap.size from by have := hr1.lt; omega)
  have hy2 : y2.length ≤ 32 := by
    rcases ho2 with ⟨_, h2⟩ | ⟨_, _, h2, _⟩
    · exact getB_le h2
    · rw [h2]; simp
  have HB2 := Lib.hid hb2
  have HB3 := Lib.hid hb3
  have HB4 := Lib.hid hb4
  have HGD := Lib.hid hgood
  have HO2 := Lib.hid ho2
  have HO3 := Lib.hid ho3
  have HO4 := Lib.hid ho4
  have hn2 : n2 ≤ B47 := by have := hrd2.1; unfold B47; omega
  have HN2 := Lib.hid hn2
  have HOWN := Lib.hid hown4
  clear hb2 hb3 hb4 hgood ho2 ho3 ho4 hr1 hr2 hr3 hc2 hc3 hc4 hn2 hown2 hown3 hown4 hi2
  have hw4 : g < w4.heap.size := hr4.lt
  have hw04 : w.heap.size < w4.heap.size := by omega
  obtain ⟨z0, z1, z2, z3, y0, y1, y2f, y3⟩ := cells4 HZ4.out
  obtain ⟨sq, hsq⟩ : ∃ sq, IntKind.i64.wrap (v3 : Int) = sq := ⟨_, rfl⟩
  obtain ⟨kd, hkd⟩ : ∃ kd, IntKind.i64.wrap (v4 : Int) = kd := ⟨_, rfl⟩
  by_cases hv41 : v4 = 1
  · subst hv41
    obtain rfl : kd = 1 := by rw [← hkd]; rfl
    go_wp2_with fail
    refine (rbytes_any g 65536 r4 _ (hr4.ext (by with_reducible (repeat (first | exact Ext.rfl_ _ | assumption | refine Ext.drew ?_ | refine Ext.drewN ?_ _ | refine Ext.alloc ?_ _ | refine Ext.trans ?_ (by assumption))))) (by decide)).mono ?_
    rintro e w5 ⟨A5, n5, c5, k5, y5, r5, rfl, ho5, hown5, hrd5, hnc5, hi5, hr5, hc5⟩
    have hX4 := blk1 w4 (.cells #[.slice A2 n2 c2, .int .i64 sq, .int .i64 1, .slice none 0 0] 25)
    have hE4 : Ext w4 (w4.alloc (.cells #[.slice A2 n2 c2, .int .i64 sq, .int .i64 1, .slice none 0 0] 25)) := Ext.alloc (Ext.rfl_ w4) _
    have HZ5 := Lib.hid (hc5.blk (hE4.blk HZ4.out) (by omega))
    have HX5 := Lib.hid (hc5.blk hX4 (by omega))
    have e5 : Ext w w5 := (Ext.trans e4 hE4).chg hc5 (by omega)
    have HOWN5 := Lib.hid ((HOWN.out.ext hE4).chgR (hr4.ext hE4) hc5)
    have hw5 : w4.heap.size < w5.heap.size := by have := hc5.size; simp at this; omega
    have hgw5 : g < w5.heap.size := by omega
    have hw05 : w.heap.size < w5.heap.size := by omega
    have hy5 : y5.length ≤ 65536 := by
      rcases ho5 with ⟨_, h2⟩ | ⟨_, _, h2, _⟩
      · exact getB_le h2
      · rw [h2]; simp
    have HO5 := Lib.hid ho5
    have hrd5' := Lib.hid hrd5
    have hown5' := Lib.hid hown5
    obtain ⟨z0, z1, z2, z3, y0, y1, y2f, y3⟩ := cells4 HZ5.out
    obtain ⟨b0, b1, b2, b3, d0, d1, d2, d3⟩ := cells4 HX5.out
    clear hX4 hE4 hc5 ho5 hrd5 hown5 HOWN HZ4 hr4 hi5
    by_cases q5 : k5 = 0
    · subst q5
      have hr5' := Lib.hid (hr5.setBlk HX5.out four_no (by omega) 3 (.slice A5 n5 c5))
      have hgood : k2 = 0 → k3 = 0 → k4 = 0 → readE x = if r5 = [] ∧ MayE ⟨y2, v3, 1, y5⟩ then some ⟨y2, v3, 1, y5⟩ else none := by
        intro a b c
        have := HGD.out a b c
        rw [if_pos trivial] at this
        rcases HO5.out with ⟨_, h2⟩ | ⟨h2, _⟩
        · rw [this, h2]; rfl
        · exact absurd rfl h2
      have HG5 := Lib.hid hgood
      clear hgood hr5
      by_cases q2 : k2 = 0
      · by_cases q3 : k3 = 0
        · by_cases q4 : k4 = 0
          · subst q2 q3 q4
            have hgood := HG5.out rfl rfl rfl
            by_cases q6 : r5 = []
            · by_cases q7 : (2147483647 : Int) < (v3 : Int)
              · have hbad : readE x = none := by
                  rw [hgood, if_neg]
                  rintro ⟨_, hm⟩
                  have := hm.2.2.2.1
                  dsimp only at this
                  omega
                have hbad := Lib.hid hbad
                clear hgood
                go_wp2_with fail
                refine (rend_any g r5 _ hr5'.out).mono ?_
                rintro e w7 ⟨rfl, rfl⟩
                rw [if_pos q6]
                go_wp2
                (refine bodyPost_ret (v := .tuple #[.agg #[.slice none 0 0, .int .i64 0, .int .i64 0, .slice none 0 0], .int .i64 4]) (by simp [results, Try.f21, go_sem, z0, z1, z2, z3]) rfl ?_; exact ⟨_, by rw [(rd_bad hbad.out).2], by rw [(rd_bad hbad.out).1]; exact FrE.zero _ _, (by with_reducible (repeat (first | exact Ext.rfl_ _ | assumption | refine Ext.drew ?_ | refine Ext.drewN ?_ _ | refine Ext.alloc ?_ _ | refine Ext.setCell ?_ (by first | (simp; done) | (simp; omega)) _ | refine Ext.trans ?_ (by assumption))))⟩)
              · have hs3 : sq = (v3 : Int) := by rw [← hsq, IntKind.wrap_i64]; omega
                subst hs3
                have hrdx : RdE (w5.setCell ⟨w4.heap.size, 3, none⟩ (.slice A5 n5 c5)) (.agg #[.slice A2 n2 c2, .int .i64 (v3 : Int), .int .i64 1, .slice A5 n5 c5]) ⟨y2, v3, 1, y5⟩ := by
                  obtain ⟨B, d, e, hd, hr, _⟩ := HOWN5.out.form
                  obtain ⟨B', d', e', hd', hr', _⟩ := hown5'.out.form
                  cases e
                  cases e'
                  exact ⟨A2, _, c2, A5, _, c5, rfl, hr.setBlk HX5.out four_no _ _, hr'.setBlk HX5.out four_no _ _, hd, HN2.out, hd', by unfold B47; omega⟩
                have HRD := Lib.hid hrdx
                clear hrdx
                by_cases q8 : MayE ⟨y2, v3, 1, y5⟩
                · have hok : readE x = some ⟨y2, v3, 1, y5⟩ := by rw [hgood, if_pos ⟨q6, q8⟩]
                  have hmm : mayE ⟨y2, v3, 1, y5⟩ = true := decide_eq_true q8
                  have HM := Lib.hid hmm
                  have HOK := Lib.hid hok
                  have hq6 : (v3 : Int) ≤ 2147483647 := by omega
                  clear hgood hmm q8 hok
                  go_wp2_with fail
                  refine (rend_any g r5 _ hr5'.out).mono ?_
                  rintro e w7 ⟨rfl, rfl⟩
                  rw [if_pos q6]
                  go_wp2_with fail
                  refine (may_any _ _ _ HRD.out).mono ?_
                  rintro e w6 ⟨rfl, hw6⟩
                  have HX6 := Lib.hid (hw6.blk (set3 HX5.out (.slice A5 n5 c5)))
                  have HZ6 := Lib.hid (hw6.blk ((Below.heap_setCell _ ⟨w4.heap.size, 3, none⟩ _ _ (by simp; omega)).trans HZ5.out))
                  obtain ⟨b0, b1, b2, b3, d0, d1, d2, d3⟩ := cells4 HX6.out
                  obtain ⟨z0, z1, z2, z3, y0, y1, y2f, y3⟩ := cells4 HZ6.out
                  have e6 : Ext w w6 := (Ext.setCell e5 (p := ⟨w4.heap.size, 3, none⟩) (by simp; omega) (.slice A5 n5 c5)).trans hw6
                  have HOWN6 := Lib.hid ((HOWN5.out.chg HX5.out (by decide) ((Chg.rfl_ _ _).setCell 3 (.slice A5 n5 c5))).ext hw6)
                  have HOWN7 := Lib.hid ((hown5'.out.chg HX5.out (by decide) ((Chg.rfl_ _ _).setCell 3 (.slice A5 n5 c5))).ext hw6)
                  rw [HM.out]
                  clear hw6
                  go_wp2
                  refine bodyPost_ret (v := .tuple #[.agg #[.slice A2 n2 c2, .int .i64 (v3 : Int), .int .i64 1, .slice A5 n5 c5], .int .i64 0]) (by simp [results, Try.f21, go_sem, z0, z1, z2, z3]) rfl ?_
                  refine ⟨_, by rw [(rd_ok HOK.out).2], ?_, (by with_reducible (repeat (first | exact Ext.rfl_ _ | assumption | refine Ext.drew ?_ | refine Ext.drewN ?_ _ | refine Ext.alloc ?_ _ | refine Ext.setCell ?_ (by first | (simp; done) | (simp; omega)) _ | refine Ext.trans ?_ (by assumption))))⟩
                  rw [(rd_ok HOK.out).1]
                  refine FrE.mk_ ?_ ?_ rfl rfl (by dsimp only; unfold B47; omega) (by dsimp only; unfold B47; omega)
                  · exact (((((HOWN6.out.setLow (by simp) _).setLow (by simp) _).setLow (by simp) _).setLow (by simp) _).mono (Nat.le_succ _))
                  · exact (((((HOWN7.out.setLow (by simp; omega) _).setLow (by simp; omega) _).setLow (by simp; omega) _).setLow (by simp; omega) _).mono (by simp; omega))
                · have hbad : readE x = none := by
                    rw [hgood, if_neg]
                    rintro ⟨_, h⟩
                    exact q8 h
                  have hbad := Lib.hid hbad
                  have hmm : mayE ⟨y2, v3, 1, y5⟩ = false := decide_eq_false q8
                  have HM := Lib.hid hmm
                  have hq6 : (v3 : Int) ≤ 2147483647 := by omega
                  clear hgood hmm q8
                  go_wp2_with fail
                  refine (rend_any g r5 _ hr5'.out).mono ?_
                  rintro e w7 ⟨rfl, rfl⟩
                  rw [if_pos q6]
                  go_wp2_with fail
                  refine (may_any _ _ _ HRD.out).mono ?_
                  rintro e w6 ⟨rfl, hw6⟩
                  have HZ6 := Lib.hid (hw6.blk ((Below.heap_setCell _ ⟨w4.heap.size, 3, none⟩ _ _ (by simp; omega)).trans HZ5.out))
                  obtain ⟨z0, z1, z2, z3, y0, y1, y2f, y3⟩ := cells4 HZ6.out
                  have e6 : Ext w w6 := (Ext.setCell e5 (p := ⟨w4.heap.size, 3, none⟩) (by simp; omega) (.slice A5 n5 c5)).trans hw6
                  rw [HM.out]
                  clear hw6
                  go_wp2
                  (refine bodyPost_ret (v := .tuple #[.agg #[.slice none 0 0, .int .i64 0, .int .i64 0, .slice none 0 0], .int .i64 4]) (by simp [results, Try.f21, go_sem, z0, z1, z2, z3]) rfl ?_; exact ⟨_, by rw [(rd_bad hbad.out).2], by rw [(rd_bad hbad.out).1]; exact FrE.zero _ _, (by with_reducible (repeat (first | exact Ext.rfl_ _ | assumption | refine Ext.drew ?_ | refine Ext.drewN ?_ _ | refine Ext.alloc ?_ _ | refine Ext.setCell ?_ (by first | (simp; done) | (simp; omega)) _ | refine Ext.trans ?_ (by assumption))))⟩)
            · have hbad : readE x = none := by
                rw [hgood, if_neg]
                rintro ⟨h, _⟩
                exact q6 h
              have hbad := Lib.hid hbad
              clear hgood
              go_wp2_with fail
              refine (rend_any g r5 _ hr5'.out).mono ?_
              rintro e w7 ⟨rfl, rfl⟩
              rw [if_neg q6]
              go_wp2
              (refine bodyPost_ret (v := .tuple #[.agg #[.slice none 0 0, .int .i64 0, .int .i64 0, .slice none 0 0], .int .i64 4]) (by simp [results, Try.f21, go_sem, z0, z1, z2, z3]) rfl ?_; exact ⟨_, by rw [(rd_bad hbad.out).2], by rw [(rd_bad hbad.out).1]; exact FrE.zero _ _, (by with_reducible (repeat (first | exact Ext.rfl_ _ | assumption | refine Ext.drew ?_ | refine Ext.drewN ?_ _ | refine Ext.alloc ?_ _ | refine Ext.setCell ?_ (by first | (simp; done) | (simp; omega)) _ | refine Ext.trans ?_ (by assumption))))⟩)
          · have q4' : (k4 != 0) = true := by simpa using q4
            have hbad := Lib.hid (HB4.out q2 q3 q4)
            subst q2 q3
            go_wp2
            (refine bodyPost_ret (v := .tuple #[.agg #[.slice none 0 0, .int .i64 0, .int .i64 0, .slice none 0 0], .int .i64 4]) (by simp [results, Try.f21, go_sem, z0, z1, z2, z3]) rfl ?_; exact ⟨_, by rw [(rd_bad hbad.out).2], by rw [(rd_bad hbad.out).1]; exact FrE.zero _ _, (by with_reducible (repeat (first | exact Ext.rfl_ _ | assumption | refine Ext.drew ?_ | refine Ext.drewN ?_ _ | refine Ext.alloc ?_ _ | refine Ext.setCell ?_ (by first | (simp; done) | (simp; omega)) _ | refine Ext.trans ?_ (by assumption))))⟩)
        · have q3' : (k3 != 0) = true := by simpa using q3
          have hbad := Lib.hid (HB3.out q2 q3)
          subst q2
          go_wp2
          (refine bodyPost_ret (v := .tuple #[.agg #[.slice none 0 0, .int .i64 0, .int .i64 0, .slice none 0 0], .int .i64 4]) (by simp [results, Try.f21, go_sem, z0, z1, z2, z3]) rfl ?_; exact ⟨_, by rw [(rd_bad hbad.out).2], by rw [(rd_bad hbad.out).1]; exact FrE.zero _ _, (by with_reducible (repeat (first | exact Ext.rfl_ _ | assumption | refine Ext.drew ?_ | refine Ext.drewN ?_ _ | refine Ext.alloc ?_ _ | refine Ext.setCell ?_ (by first | (simp; done) | (simp; omega)) _ | refine Ext.trans ?_ (by assumption))))⟩)
      · have q2' : (k2 != 0) = true := by simpa using q2
        have hbad := Lib.hid (HB2.out q2)
        go_wp2
        (refine bodyPost_ret (v := .tuple #[.agg #[.slice none 0 0, .int .i64 0, .int .i64 0, .slice none 0 0], .int .i64 4]) (by simp [results, Try.f21, go_sem, z0, z1, z2, z3]) rfl ?_; exact ⟨_, by rw [(rd_bad hbad.out).2], by rw [(rd_bad hbad.out).1]; exact FrE.zero _ _, (by with_reducible (repeat (first | exact Ext.rfl_ _ | assumption | refine Ext.drew ?_ | refine Ext.drewN ?_ _ | refine Ext.alloc ?_ _ | refine Ext.setCell ?_ (by first | (simp; done) | (simp; omega)) _ | refine Ext.trans ?_ (by assumption))))⟩)
    · have q5' : (k5 != 0) = true := by simpa using q5
      have hbad : readE x = none := by
        by_cases a : k2 = 0
        · by_cases b : k3 = 0
          · by_cases c : k4 = 0
            · have := HGD.out a b c
              rw [if_pos trivial] at this
              rcases HO5.out with ⟨h2, _⟩ | ⟨_, h2, _⟩
              · exact absurd h2 q5
              · rw [this, h2]
            · exact HB4.out a b c
          · exact HB3.out a b
        · exact HB2.out a
      have hbad := Lib.hid hbad
      go_wp2
      (refine bodyPost_ret (v := .tuple #[.agg #[.slice none 0 0, .int .i64 0, .int .i64 0, .slice none 0 0], .int .i64 4]) (by simp [results, Try.f21, go_sem, z0, z1, z2, z3]) rfl ?_; exact ⟨_, by rw [(rd_bad hbad.out).2], by rw [(rd_bad hbad.out).1]; exact FrE.zero _ _, (by with_reducible (repeat (first | exact Ext.rfl_ _ | assumption | refine Ext.drew ?_ | refine Ext.drewN ?_ _ | refine Ext.alloc ?_ _ | refine Ext.setCell ?_ (by first | (simp; done) | (simp; omega)) _ | refine Ext.trans ?_ (by assumption))))⟩)
  · have hkd1 : (kd == 1) = false := by
      rw [beq_eq_false_iff_ne]
      rw [IntKind.wrap_i64] at hkd
      omega
    by_cases q2 : k2 = 0
    · by_cases q3 : k3 = 0
      · by_cases q4 : k4 = 0
        · subst q2 q3 q4
          have hgood := HGD.out rfl rfl rfl
          rw [if_neg hv41] at hgood
          by_cases q5 : r4 = []
          · by_cases q6 : (2147483647 : Int) < (v3 : Int)
            · have hbad : readE x = none := by
                rw [hgood]; dsimp only; rw [if_neg]
                rintro ⟨_, hm⟩
                have := hm.2.2.2.1
                dsimp only at this
                omega
              have hbad := Lib.hid hbad
              clear hgood
              go_wp2_with fail
              refine (rend_any g r4 _ (hr4.ext (by with_reducible (repeat (first | exact Ext.rfl_ _ | assumption | refine Ext.drew ?_ | refine Ext.drewN ?_ _ | refine Ext.alloc ?_ _ | refine Ext.trans ?_ (by assumption)))))).mono ?_
              rintro e w5 ⟨rfl, rfl⟩
              rw [if_pos q5]
              go_wp2
              (refine bodyPost_ret (v := .tuple #[.agg #[.slice none 0 0, .int .i64 0, .int .i64 0, .slice none 0 0], .int .i64 4]) (by simp [results, Try.f21, go_sem, z0, z1, z2, z3, hw04]) rfl ?_; exact ⟨_, by rw [(rd_bad hbad.out).2], by rw [(rd_bad hbad.out).1]; exact FrE.zero _ _, (by with_reducible (repeat (first | exact Ext.rfl_ _ | assumption | refine Ext.drew ?_ | refine Ext.drewN ?_ _ | refine Ext.alloc ?_ _ | refine Ext.setCell ?_ (by first | (simp; done) | (simp; omega)) _ | refine Ext.trans ?_ (by assumption))))⟩)
            · have hs3 : sq = (v3 : Int) := by rw [← hsq, IntKind.wrap_i64]; omega
              subst hs3
              have hrdx : RdE w4 (.agg #[.slice A2 n2 c2, .int .i64 (v3 : Int), .int .i64 kd, .slice none 0 0]) ⟨y2, v3, kd, []⟩ := by
                obtain ⟨B, d, e, hd, hr, _⟩ := HOWN.out.form
                cases e
                exact ⟨A2, _, c2, none, 0, 0, rfl, hr, Rd.nil _ _, hd, HN2.out, Nat.le_refl _, Nat.zero_le _⟩
              have HRD := Lib.hid hrdx
              have hmm : mayE ⟨y2, v3, kd, []⟩ = decide (MayE ⟨y2, v3, v4, []⟩) := by
                unfold mayE
                rw [decide_eq_decide]
                unfold MayE
                dsimp only
                rw [IntKind.wrap_i64] at hkd
                constructor
                · rintro ⟨a1, a2, a3, a4, a5, a6⟩; exact ⟨a1, a2, a3, a4, a5, by omega⟩
                · rintro ⟨a1, a2, a3, a4, a5, a6⟩; exact ⟨a1, a2, a3, a4, a5, by omega⟩
              clear hrdx hsq
              by_cases q7 : MayE ⟨y2, v3, v4, []⟩
              · have hok : readE x = some ⟨y2, v3, v4, []⟩ := by rw [hgood]; dsimp only; rw [if_pos ⟨q5, q7⟩]
                have hv42 : v4 = 2 := by have := q7.2.2.2.2.2; dsimp only at this; omega
                subst hv42
                obtain rfl : kd = 2 := by rw [← hkd]; rfl
                rw [decide_eq_true q7] at hmm
                have HM := Lib.hid hmm
                have HOK := Lib.hid hok
                have hq6 : (v3 : Int) ≤ 2147483647 := by omega
                clear hgood hmm q7 hok hkd
                go_wp2_with fail
                refine (rend_any g r4 _ (hr4.ext (by with_reducible (repeat (first | exact Ext.rfl_ _ | assumption | refine Ext.drew ?_ | refine Ext.drewN ?_ _ | refine Ext.alloc ?_ _ | refine Ext.trans ?_ (by assumption)))))).mono ?_
                rintro e w5 ⟨rfl, rfl⟩
                rw [if_pos q5]
                go_wp2_with fail
                refine (may_any _ _ _ (HRD.out.ext (by with_reducible (repeat (first | exact Ext.rfl_ _ | assumption | refine Ext.drew ?_ | refine Ext.drewN ?_ _ | refine Ext.alloc ?_ _ | refine Ext.trans ?_ (by assumption)))))).mono ?_
                rintro e w6 ⟨rfl, hw6⟩
                obtain ⟨b0, b1, b2, b3, d0, d1, d2, d3⟩ := box4 (blk1 w4 (.cells #[.slice A2 n2 c2, .int .i64 (v3 : Int), .int .i64 2, .slice none 0 0] 25)) (w' := w6) (by with_reducible (repeat (first | exact Ext.rfl_ _ | assumption | refine Ext.drew ?_ | refine Ext.drewN ?_ _ | refine Ext.alloc ?_ _ | refine Ext.trans ?_ (by assumption))))
                have HZ6 := Lib.hid (hw6.blk ((Ext.alloc (Ext.rfl_ w4) (.cells #[.slice A2 n2 c2, .int .i64 (v3 : Int), .int .i64 2, .slice none 0 0] 25)).blk HZ4.out))
                obtain ⟨z0, z1, z2, z3, y0, y1, y2f, y3⟩ := cells4 HZ6.out
                have e6 : Ext w w6 := (by with_reducible (repeat (first | exact Ext.rfl_ _ | assumption | refine Ext.drew ?_ | refine Ext.drewN ?_ _ | refine Ext.alloc ?_ _ | refine Ext.trans ?_ (by assumption))))
                have HOWN6 := Lib.hid ((HOWN.out.ext (Ext.alloc (Ext.rfl_ w4) (.cells #[.slice A2 n2 c2, .int .i64 (v3 : Int), .int .i64 2, .slice none 0 0] 25))).ext hw6)
                rw [HM.out]
                clear hw6
                go_wp2
                refine bodyPost_ret (v := .tuple #[.agg #[.slice A2 n2 c2, .int .i64 (v3 : Int), .int .i64 2, .slice none 0 0], .int .i64 0]) (by simp [results, Try.f21, go_sem, z0, z1, z2, z3, hw04]) rfl ?_
                refine ⟨_, by rw [(rd_ok HOK.out).2], ?_, (by with_reducible (repeat (first | exact Ext.rfl_ _ | assumption | refine Ext.drew ?_ | refine Ext.drewN ?_ _ | refine Ext.alloc ?_ _ | refine Ext.setCell ?_ (by first | (simp; done) | (simp; omega)) _ | refine Ext.trans ?_ (by assumption))))⟩
                rw [(rd_ok HOK.out).1]
                refine FrE.mk_ ?_ (OwnB.nil _ _) rfl rfl (by dsimp only; unfold B47; omega) (Nat.zero_le _)
                exact (((((HOWN6.out.setLow (by simp) _).setLow (by simp) _).setLow (by simp) _).setLow (by simp) _).mono (Nat.le_succ _))
              · have hbad : readE x = none := by
                  rw [hgood]; dsimp only; rw [if_neg]
                  rintro ⟨_, h⟩
                  exact q7 h
                have hbad := Lib.hid hbad
                rw [decide_eq_false q7] at hmm
                have HM := Lib.hid hmm
                have hq6 : (v3 : Int) ≤ 2147483647 := by omega
                clear hgood hmm q7
                go_wp2_with fail
                refine (rend_any g r4 _ (hr4.ext (by with_reducible (repeat (first | exact Ext.rfl_ _ | assumption | refine Ext.drew ?_ | refine Ext.drewN ?_ _ | refine Ext.alloc ?_ _ | refine Ext.trans ?_ (by assumption)))))).mono ?_
                rintro e w5 ⟨rfl, rfl⟩
                rw [if_pos q5]
                go_wp2_with fail
                refine (may_any _ _ _ (HRD.out.ext (by with_reducible (repeat (first | exact Ext.rfl_ _ | assumption | refine Ext.drew ?_ | refine Ext.drewN ?_ _ | refine Ext.alloc ?_ _ | refine Ext.trans ?_ (by assumption)))))).mono ?_
                rintro e w6 ⟨rfl, hw6⟩
                have HZ6 := Lib.hid (hw6.blk ((Ext.alloc (Ext.rfl_ w4) (.cells #[.slice A2 n2 c2, .int .i64 (v3 : Int), .int .i64 kd, .slice none 0 0] 25)).blk HZ4.out))
                obtain ⟨z0, z1, z2, z3, y0, y1, y2f, y3⟩ := cells4 HZ6.out
                have e6 : Ext w w6 := (by with_reducible (repeat (first | exact Ext.rfl_ _ | assumption | refine Ext.drew ?_ | refine Ext.drewN ?_ _ | refine Ext.alloc ?_ _ | refine Ext.trans ?_ (by assumption))))
                rw [HM.out]
                clear hw6
                go_wp2
                (refine bodyPost_ret (v := .tuple #[.agg #[.slice none 0 0, .int .i64 0, .int .i64 0, .slice none 0 0], .int .i64 4]) (by simp [results, Try.f21, go_sem, z0, z1, z2, z3, hw04]) rfl ?_; exact ⟨_, by rw [(rd_bad hbad.out).2], by rw [(rd_bad hbad.out).1]; exact FrE.zero _ _, (by with_reducible (repeat (first | exact Ext.rfl_ _ | assumption | refine Ext.drew ?_ | refine Ext.drewN ?_ _ | refine Ext.alloc ?_ _ | refine Ext.setCell ?_ (by first | (simp; done) | (simp; omega)) _ | refine Ext.trans ?_ (by assumption))))⟩)
          · have hbad : readE x = none := by
              rw [hgood]; dsimp only; rw [if_neg]
              rintro ⟨h, _⟩
              exact q5 h
            have hbad := Lib.hid hbad
            clear hgood
            go_wp2_with fail
            refine (rend_any g r4 _ (hr4.ext (by with_reducible (repeat (first | exact Ext.rfl_ _ | assumption | refine Ext.drew ?_ | refine Ext.drewN ?_ _ | refine Ext.alloc ?_ _ | refine Ext.trans ?_ (by assumption)))))).mono ?_
            rintro e w5 ⟨rfl, rfl⟩
            rw [if_neg q5]
            go_wp2
            (refine bodyPost_ret (v := .tuple #[.agg #[.slice none 0 0, .int .i64 0, .int .i64 0, .slice none 0 0], .int .i64 4]) (by simp [results, Try.f21, go_sem, z0, z1, z2, z3, hw04]) rfl ?_; exact ⟨_, by rw [(rd_bad hbad.out).2], by rw [(rd_bad hbad.out).1]; exact FrE.zero _ _, (by with_reducible (repeat (first | exact Ext.rfl_ _ | assumption | refine Ext.drew ?_ | refine Ext.drewN ?_ _ | refine Ext.alloc ?_ _ | refine Ext.setCell ?_ (by first | (simp; done) | (simp; omega)) _ | refine Ext.trans ?_ (by assumption))))⟩)
        · have q4' : (k4 != 0) = true := by simpa using q4
          have hbad := Lib.hid (HB4.out q2 q3 q4)
          subst q2 q3
          go_wp2
          (refine bodyPost_ret (v := .tuple #[.agg #[.slice none 0 0, .int .i64 0, .int .i64 0, .slice none 0 0], .int .i64 4]) (by simp [results, Try.f21, go_sem, z0, z1, z2, z3, hw04]) rfl ?_; exact ⟨_, by rw [(rd_bad hbad.out).2], by rw [(rd_bad hbad.out).1]; exact FrE.zero _ _, (by with_reducible (repeat (first | exact Ext.rfl_ _ | assumption | refine Ext.drew ?_ | refine Ext.drewN ?_ _ | refine Ext.alloc ?_ _ | refine Ext.setCell ?_ (by first | (simp; done) | (simp; omega)) _ | refine Ext.trans ?_ (by assumption))))⟩)
      · have q3' : (k3 != 0) = true := by simpa using q3
        have hbad := Lib.hid (HB3.out q2 q3)
        subst q2
        go_wp2
        (refine bodyPost_ret (v := .tuple #[.agg #[.slice none 0 0, .int .i64 0, .int .i64 0, .slice none 0 0], .int .i64 4]) (by simp [results, Try.f21, go_sem, z0, z1, z2, z3, hw04]) rfl ?_; exact ⟨_, by rw [(rd_bad hbad.out).2], by rw [(rd_bad hbad.out).1]; exact FrE.zero _ _, (by with_reducible (repeat (first | exact Ext.rfl_ _ | assumption | refine Ext.drew ?_ | refine Ext.drewN ?_ _ | refine Ext.alloc ?_ _ | refine Ext.setCell ?_ (by first | (simp; done) | (simp; omega)) _ | refine Ext.trans ?_ (by assumption))))⟩)
    · have q2' : (k2 != 0) = true := by simpa using q2
      have hbad := Lib.hid (HB2.out q2)
      go_wp2
      (refine bodyPost_ret (v := .tuple #[.agg #[.slice none 0 0, .int .i64 0, .int .i64 0, .slice none 0 0], .int .i64 4]) (by simp [results, Try.f21, go_sem, z0, z1, z2, z3, hw04]) rfl ?_; exact ⟨_, by rw [(rd_bad hbad.out).2], by rw [(rd_bad hbad.out).1]; exact FrE.zero _ _, (by with_reducible (repeat (first | exact Ext.rfl_ _ | assumption | refine Ext.drew ?_ | refine Ext.drewN ?_ _ | refine Ext.alloc ?_ _ | refine Ext.setCell ?_ (by first | (simp; done) | (simp; omega)) _ | refine Ext.trans ?_ (by assumption))))⟩)

end Go.Proofs.Ytpohmoakilioiaa
