/- Reading an edit back: numbers, through the pointers that are handed in. Conditions: the reader has just these bytes ahead. -/
/- Reading a table's place back. Conditions: the reader has just these bytes ahead. -/
/- Reading a list of tables back. Conditions: the reader has just these bytes ahead. -/
/- wire.Take of tables, of no numbers. Conditions: the reader has just these bytes ahead. -/
/- edit.read of a whole version's bytes. Conditions: the bytes are just these. -/
import Derived.Test.YteooaplimiifiaaGreatEwM
import Derived.Test.YteooaplimiifiaaGreatReadC
import Derived.Laws.EntriesVeiled
namespace Go.Proofs.YteooaplimiifiaaGreat
set_option linter.unusedSimpArgs false
set_option linter.unusedVariables false
set_option maxRecDepth 100000
open Go.RowKit

theorem setCell_self {w : World} {g o : Nat} {v : Value} (h : w.cell? ⟨g, o, none⟩ = some v) : w.setCell ⟨g, o, none⟩ v = w := by
  unfold World.cell? at h
  have e : (w.setCell ⟨g, o, none⟩ v).heap = w.heap := by
    apply Array.ext_getElem?
    intro i
    simp only [World.setCell, Array.getElem?_modify]
    by_cases hi : g = i
    · subst hi
      simp only [if_true]
      cases hh : w.heap[g]? with
      | none => rfl
      | some ob =>
        cases ob with
        | cells c t f =>
          rw [hh] at h
          simp only [Option.map_some, Option.isSome_none]
          congr 2
          apply Array.ext_getElem?
          intro j
          simp at h
          by_cases hj : o = j
          · subst hj
            obtain ⟨h1, h2⟩ := Array.getElem?_eq_some_iff.1 h
            simp [h1, h2]
          · simp [hj]
        | _ => rfl
    · simp [hi]
  cases w
  simp only [World.setCell] at e ⊢
  rw [e]

theorem etake_ok (g : Nat) (x r : Bs) (v : Nat) (w : World) (hx : Rdr w g x) (hv : getN x = some (v, r)) (hv2 : v ≤ 2147483647) :
    Calls Tryz.prog 62 #[.pointer (some ⟨g, 0, none⟩)] w fun e w' => e = .returned (.tuple #[.int .i64 v, .int .i64 0]) ∧ Rdr w' g r ∧ Chg g w w' := by
  have HX := Lib.hid hx
  clear hx
  go_enter Tryz.func62, Tryz.ntmps62
  go_wp2_with fail
  refine (rnum_ok g x r v _ HX.out hv).mono ?_
  rintro e w1 ⟨rfl, hr1, hc1⟩
  have HR := Lib.hid hr1
  have HC := Lib.hid hc1
  clear hr1 hc1 hv
  have hv3 : ¬ (2147483647 : Int) < (v : Int) := by omega
  go_wp2
  go_ret2
  exact ⟨rfl, HR.out, HC.out⟩

theorem eok_any (gb : Nat) (w : World) (h : w.cell? ⟨gb, 0, none⟩ = some (.bool false)) (hf : w.frozen? ⟨gb, 0, none⟩ = false) :
    Calls Tryz.prog 60 #[.int .i64 0, .pointer (some ⟨gb, 0, none⟩)] w fun e w' => e = .returned (.tuple #[]) ∧ w' = w := by
  have hs := setCell_self h
  go_enter Tryz.func60, Tryz.ntmps60
  go_wp2
  go_end0
  exact ⟨rfl, rfl⟩

/-! ### numbers through pointers -/
/-- Block, place, number. -/
abbrev PtN := Nat × Nat × Nat
def setsQ (w : World) (qs : List PtN) : World := qs.foldl (fun w q => w.setCell ⟨q.1, q.2.1, none⟩ (.int .i64 (q.2.2 : Nat))) w
theorem setsQ_snoc (w : World) (qs : List PtN) (q : PtN) : setsQ w (qs ++ [q]) = (setsQ w qs).setCell ⟨q.1, q.2.1, none⟩ (.int .i64 (q.2.2 : Nat)) := by simp [setsQ]
theorem setsQ_size (w : World) (qs : List PtN) : (setsQ w qs).heap.size = w.heap.size := by
  induction qs generalizing w with
  | nil => rfl
  | cons q qs ih => show (setsQ (w.setCell _ _) qs).heap.size = _; rw [ih]; simp [World.setCell]
theorem setsQ_other (w : World) (qs : List PtN) (k : Nat) (h : ∀ q ∈ qs, q.1 ≠ k) : (setsQ w qs).heap[k]? = w.heap[k]? := by
  induction qs generalizing w with
  | nil => rfl
  | cons q qs ih =>
    show (setsQ (w.setCell _ _) qs).heap[k]? = _
    rw [ih _ (fun p hp => h p (List.mem_cons_of_mem _ hp)), Below.heap_setCell _ _ _ _ (fun e => h q List.mem_cons_self (by simpa using e.symm))]

/-- A block, not of bytes, that has a place o. -/
def TgO (w : World) (b o : Nat) : Prop := ∃ cs t, w.heap[b]? = some (.cells cs t (0, 0)) ∧ o < cs.size ∧ t ≠ 5 ∧ ∀ (i : Nat) (k : Int), cs[i]? ≠ some (Value.int .u8 k)
theorem TgO.set {w : World} {b o c p : Nat} (h : TgO w b o) (n : Nat) : TgO (w.setCell ⟨c, p, none⟩ (.int .i64 (n : Nat))) b o := by
  obtain ⟨cs, t, h1, h2, h3, h4⟩ := h
  by_cases e : b = c
  · subst e
    refine ⟨cs.setIfInBounds p (.int .i64 (n : Nat)), t, heap_set _ _ _ _ _ _ h1, by simpa using h2, h3, fun i k => ?_⟩
    rw [Array.getElem?_setIfInBounds]
    split
    · split <;> simp
    · exact h4 i k
  · exact ⟨cs, t, by rw [Below.heap_setCell _ _ _ _ (fun e2 => e (by simpa using e2))]; exact h1, h2, h3, h4⟩
theorem TgO.sets {w : World} {b o : Nat} (h : TgO w b o) (qs : List PtN) : TgO (setsQ w qs) b o := by
  induction qs generalizing w with
  | nil => exact h
  | cons q qs ih => exact ih (h.set q.2.2)
theorem TgO.chg {w w' : World} {b o g : Nat} (h : TgO w b o) (hc : Chg g w w') (hne : b ≠ g) : TgO w' b o := by
  obtain ⟨cs, t, h1, h2⟩ := h
  exact ⟨cs, t, (hc.block _ (Array.getElem?_eq_some_iff.1 h1).1 (fun e => hne (by cases e; rfl))).trans h1, h2⟩
theorem TgO.cell {w : World} {b o : Nat} (h : TgO w b o) : ∃ v, w.cell? ⟨b, o, none⟩ = some v ∧ w.frozen? ⟨b, o, none⟩ = false := by
  obtain ⟨cs, t, h1, h2, _⟩ := h
  refine ⟨cs[o], ?_, ?_⟩
  · unfold World.cell?
    simp [h1, h2]
  · unfold World.frozen?
    simp [h1]

theorem Rd.chgN {w w' : World} {z : Nat} {A : Option Addr} {n : Nat} {y : Bs} {cs : Array Value} {t : TypeId} {fr : Nat × Nat} (h : Rd w A n y) (hg : w.heap[z]? = some (.cells cs t fr)) (hcs : ∀ (i : Nat) (k : Int), cs[i]? ≠ some (Value.int .u8 k)) (hc : Chg z w w') : Rd w' A n y :=
  ⟨h.1, fun hn => by
    obtain ⟨b, o, e, hcl⟩ := h.2 hn
    have hne : b ≠ z := fun e2 => by
      have h0 := hcl 0 (by rw [h.1]; exact hn)
      subst e2
      unfold World.cell? at h0
      simp [hg] at h0
      exact hcs _ _ h0
    refine ⟨b, o, e, fun j hj => ?_⟩
    have := hcl j hj
    unfold World.cell? at *
    rw [hc.block b (cell_lt (hcl j hj)) (fun e2 => hne (by cases e2; rfl))]
    exact this⟩
theorem Rdr.chgN {w w' : World} {g z : Nat} {x : Bs} {cs : Array Value} {t : TypeId} {fr : Nat × Nat} (h : Rdr w g x) (hg : w.heap[z]? = some (.cells cs t fr)) (ht : t ≠ 5) (hcs : ∀ (i : Nat) (k : Int), cs[i]? ≠ some (Value.int .u8 k)) (hne : g ≠ z) (hc : Chg z w w') : Rdr w' g x := by
  obtain ⟨b, o, n, c, h1, h2, h3⟩ := h
  exact ⟨b, o, n, c, (hc.block g (Array.getElem?_eq_some_iff.1 h1).1 (fun e => hne (by cases e; rfl))).trans h1, ⟨h2.1.chgN hg hcs hc, h2.2.chg' hg ht hc⟩, h3⟩
theorem Rdr.setQ {w : World} {g b o : Nat} {x : Bs} (h : Rdr w g x) (ht : TgO w b o) (hne : g ≠ b) (p : Nat) (u : Value) : Rdr (w.setCell ⟨b, p, none⟩ u) g x := by
  obtain ⟨cs, t, h1, _, h3, h4⟩ := ht
  exact h.chgN h1 h3 h4 hne ((Chg.rfl_ b w).setCell p u)
theorem Chg.setNew {g : Nat} {a w : World} (h : Chg g a w) {p : Addr} (hp : a.heap.size ≤ p.block) (u : Value) : Chg g a (w.setCell p u) :=
  ⟨h.os, h.tape, h.output, by simpa [World.setCell] using h.size, fun k hk hne => (Below.heap_setCell _ _ _ _ (fun e => by omega)).trans (h.block k hk hne)⟩
theorem Chg.both {g : Nat} {a b : World} (h : Chg g a b) {c p : Nat} (hc : c ≠ g) (hl : c < a.heap.size) (u : Value) : Chg g (a.setCell ⟨c, p, none⟩ u) (b.setCell ⟨c, p, none⟩ u) := by
  refine ⟨h.os, h.tape, h.output, by simpa [World.setCell] using h.size, fun k hk hne => ?_⟩
  have hk' : k < a.heap.size := by simpa [World.setCell] using hk
  by_cases e : k = c
  · subst e
    have := h.block k hl (fun e => hc (by cases e; rfl))
    simp only [World.setCell, Array.getElem?_modify, if_true, this]
  · rw [Below.heap_setCell _ _ _ _ (by simpa using e), Below.heap_setCell _ _ _ _ (by simpa using e)]
    exact h.block k hk' hne

/-- The bytes of numbers. -/
def numsB (qs : List PtN) : Bs := (qs.map fun q => numB q.2.2).flatten

set_option maxRecDepth 100000 in
set_option maxHeartbeats 4000000 in
theorem enums_any (g go gb bp : Nat) (qs : List PtN) (r : Bs) (w : World) (hx : Rdr w g (numsB qs ++ r)) (hv : ∀ q ∈ qs, q.2.2 ≤ 2147483647)
    (hgo : w.heap[go]? = some (.cells #[.func (.func 60) #[] #[.pointer (some ⟨gb, 0, none⟩)]] 97 (0, 0))) (hgb : w.heap[gb]? = some (.cells #[.bool false] 4 (0, 0)))
    (hbp : w.heap[bp]? = some (.cells (qs.map fun q => Value.pointer (some ⟨q.1, q.2.1, none⟩)).toArray 99 (0, 0))) (ht : ∀ q ∈ qs, TgO w q.1 q.2.1)
    (hne : go ≠ g ∧ gb ≠ g ∧ bp ≠ g) (hnq : ∀ q ∈ qs, q.1 ≠ g ∧ q.1 ≠ go ∧ q.1 ≠ gb ∧ q.1 ≠ bp) (hl : qs.length ≤ 1000) :
    Calls Tryz.prog 61 #[.pointer (some ⟨g, 0, none⟩), .slice (some ⟨bp, 0, none⟩) qs.length qs.length, .pointer (some ⟨go, 0, none⟩)] w fun e w' => e = .returned (.tuple #[]) ∧ Rdr w' g r ∧ Chg g (setsQ w qs) w' := by
  have HX := Lib.hid hx
  have HV := Lib.hid hv
  have HGO := Lib.hid hgo
  have HGB := Lib.hid hgb
  have HBP := Lib.hid hbp
  have HT := Lib.hid ht
  have HNE := Lib.hid hne
  have HNQ := Lib.hid hnq
  clear hx hv hgo hgb hbp ht hne hnq
  go_enter Tryz.func61, Tryz.ntmps61
  go_wp2
  go_loopw [11] (fun i wr => ∃ k : Nat, i = .int .i64 k ∧ k ≤ qs.length ∧ Hid (Rdr wr g (numsB (qs.drop k) ++ r)) ∧ Hid (Chg g (setsQ w (qs.take k)) wr)) (fun i _ => qs.length - (intOf i).toNat)
  case atStart => exact ⟨0, rfl, Nat.zero_le _, HX, Lib.hid (Chg.rfl_ _ _)⟩
  case round =>
    obtain ⟨k, rfl, hk, HR, HC⟩ := hrel
    by_cases hlt : k < qs.length
    · have hltz : (k : Int) < (qs.length : Int) := by omega
      obtain ⟨q, hq⟩ : ∃ q, q = qs[k] := ⟨_, rfl⟩
      have hqm : q ∈ qs := by rw [hq]; exact List.getElem_mem _
      have hdrop : qs.drop k = q :: qs.drop (k + 1) := by rw [hq]; exact List.drop_eq_getElem_cons hlt
      have htake : qs.take (k + 1) = qs.take k ++ [q] := by rw [hq]; exact List.take_succ_eq_append_getElem hlt
      have hmt : ∀ p ∈ qs.take k, p ∈ qs := fun p hp => List.mem_of_mem_take hp
      have hblk : ∀ z, z ≠ g → (∀ p ∈ qs, p.1 ≠ z) → z < w.heap.size → wr.heap[z]? = w.heap[z]? := fun z h1 h2 h3 => by
        rw [HC.out.block z (by rw [setsQ_size]; exact h3) (fun e => h1 (by cases e; rfl))]
        exact setsQ_other w _ z (fun p hp => h2 p (hmt p hp))
      have b1 : wr.heap[bp]? = _ := (hblk bp HNE.out.2.2 (fun p hp => (HNQ.out p hp).2.2.2) (Array.getElem?_eq_some_iff.1 HBP.out).1).trans HBP.out
      have b2 : wr.heap[go]? = _ := (hblk go HNE.out.1 (fun p hp => (HNQ.out p hp).2.1) (Array.getElem?_eq_some_iff.1 HGO.out).1).trans HGO.out
      have b3 : wr.heap[gb]? = _ := (hblk gb HNE.out.2.1 (fun p hp => (HNQ.out p hp).2.2.1) (Array.getElem?_eq_some_iff.1 HGB.out).1).trans HGB.out
      have hptr : wr.cell? ⟨bp, k, none⟩ = some (.pointer (some ⟨q.1, q.2.1, none⟩)) := by
        unfold World.cell?
        simp [b1, hlt, ← hq]
      have hgn : getN (numsB (qs.drop k) ++ r) = some (q.2.2, numsB (qs.drop (k + 1)) ++ r) := by
        rw [hdrop]
        show getN ((numB q.2.2 ++ numsB (qs.drop (k + 1))) ++ r) = _
        rw [List.append_assoc]
        exact getN_numB (by have := HV.out q hqm; omega)
      have HGN := Lib.hid hgn
      have B2 := Lib.hid b2
      have B3 := Lib.hid b3
      have hv2 := HV.out q hqm
      have HTW := Lib.hid (((HT.out q hqm).sets (qs.take k)).chg HC.out (HNQ.out q hqm).1)
      have HQM := Lib.hid hqm
      have HTK := Lib.hid htake
      have hqlt := Lib.hid (show q.1 < (setsQ w (qs.take k)).heap.size by
        obtain ⟨cs, t, h1, _⟩ := HT.out q hqm
        rw [setsQ_size]; exact (Array.getElem?_eq_some_iff.1 h1).1)
      obtain ⟨qb, qo, qv⟩ := q
      clear hgn b1 b2 b3 hq hdrop hmt hblk hqm htake
      dsimp only at hptr hv2
      go_wp2_with fail
      refine (etake_ok g _ _ qv _ HR.out HGN.out hv2).mono ?_
      rintro e w1 ⟨rfl, hr1, hc1⟩
      have HR1 := Lib.hid hr1
      have HC1 := Lib.hid hc1
      have c2 : w1.heap[go]? = _ := (hc1.block go (Array.getElem?_eq_some_iff.1 B2.out).1 (fun e => HNE.out.1 (by cases e; rfl))).trans B2.out
      have c3 : w1.heap[gb]? = _ := (hc1.block gb (Array.getElem?_eq_some_iff.1 B3.out).1 (fun e => HNE.out.2.1 (by cases e; rfl))).trans B3.out
      have d2 : w1.cell? ⟨go, 0, none⟩ = some (.func (.func 60) #[] #[.pointer (some ⟨gb, 0, none⟩)]) := by unfold World.cell?; simp [c2]
      have d3 : w1.cell? ⟨gb, 0, none⟩ = some (.bool false) := by unfold World.cell?; simp [c3]
      have f3 : w1.frozen? ⟨gb, 0, none⟩ = false := by unfold World.frozen?; simp [c3]
      have HT1 := Lib.hid (HTW.out.chg hc1 (HNQ.out _ HQM.out).1)
      obtain ⟨u0, e1, e2⟩ := HT1.out.cell
      clear hr1 hc1 c2 c3
      go_wp2_with fail
      refine (eok_any gb _ d3 f3).mono ?_
      rintro e w2 ⟨rfl, rfl⟩
      go_wp2
      go_roundw
      case rel =>
        refine ⟨k + 1, by go_num, by omega, Lib.hid (HR1.out.setQ HT1.out (fun e => (HNQ.out _ HQM.out).1 e.symm) _ _), Lib.hid ?_⟩
        rw [HTK.out, setsQ_snoc]
        exact (HC.out.trans HC1.out).both (HNQ.out _ HQM.out).1 hqlt.out _
      case measure => simp [intOf]; omega
    · obtain rfl : k = qs.length := by omega
      have HR2 := Lib.hid (show Rdr wr g r from by have := HR.out; rwa [List.drop_length] at this)
      have HC2 := Lib.hid (show Chg g (setsQ w qs) wr from by have := HC.out; rwa [List.take_length] at this)
      go_wp2
      go_end0
      exact ⟨rfl, HR2.out, HC2.out⟩


open Go.RowKit

theorem getB_bytW {most : Nat} {y r : Bs} (h : y.length ≤ most) (hm : most < 18446744073709551616) : getB most (bytB y ++ r) = some (y, r) := by
  unfold getB bytB
  rw [List.append_assoc, getN_numB (by omega)]
  simp [h]

/-- The boxes that edit.read's functions share. -/
structure BxE (w : World) (g gn ge go gb : Nat) : Prop where
  bn : w.heap[gn]? = some (.cells #[.func (.func 61) #[] #[.pointer (some ⟨go, 0, none⟩)]] 102 (0, 0))
  be : w.heap[ge]? = some (.cells #[.int .i64 0] 29 (0, 0))
  bo : w.heap[go]? = some (.cells #[.func (.func 60) #[] #[.pointer (some ⟨gb, 0, none⟩)]] 97 (0, 0))
  bb : w.heap[gb]? = some (.cells #[.bool false] 4 (0, 0))
  ne : gn ≠ g ∧ ge ≠ g ∧ go ≠ g ∧ gb ≠ g
theorem BxE.chg {w w' : World} {g gn ge go gb : Nat} (h : BxE w g gn ge go gb) (hc : Chg g w w') : BxE w' g gn ge go gb := by
  have k : ∀ z o, z ≠ g → w.heap[z]? = some o → w'.heap[z]? = some o := fun z o h1 h2 => (hc.block z (Array.getElem?_eq_some_iff.1 h2).1 (fun e => h1 (by cases e; rfl))).trans h2
  exact ⟨k _ _ h.ne.1 h.bn, k _ _ h.ne.2.1 h.be, k _ _ h.ne.2.2.1 h.bo, k _ _ h.ne.2.2.2 h.bb, h.ne⟩
theorem BxE.set {w : World} {g gn ge go gb z : Nat} (h : BxE w g gn ge go gb) (hz : gn < z ∧ ge < z ∧ go < z ∧ gb < z) (o : Nat) (u : Value) : BxE (w.setCell ⟨z, o, none⟩ u) g gn ge go gb := by
  have k : ∀ y ob, y < z → w.heap[y]? = some ob → (w.setCell ⟨z, o, none⟩ u).heap[y]? = some ob := fun y ob h1 h2 => (Below.heap_setCell _ _ _ _ (by simp; omega)).trans h2
  exact ⟨k _ _ hz.1 h.bn, k _ _ hz.2.1 h.be, k _ _ hz.2.2.1 h.bo, k _ _ hz.2.2.2 h.bb, h.ne⟩
theorem BxE.ext {w w' : World} {g gn ge go gb : Nat} (h : BxE w g gn ge go gb) (hc : Ext w w') : BxE w' g gn ge go gb := h.chg (Chg.of_ext hc)
/-- .. as cells. -/
theorem BxE.cells {w : World} {g gn ge go gb : Nat} (h : BxE w g gn ge go gb) :
    (w.cell? ⟨gn, 0, none⟩ = some (.func (.func 61) #[] #[.pointer (some ⟨go, 0, none⟩)]) ∧ w.cell? ⟨ge, 0, none⟩ = some (.int .i64 0) ∧ w.cell? ⟨go, 0, none⟩ = some (.func (.func 60) #[] #[.pointer (some ⟨gb, 0, none⟩)]) ∧ w.cell? ⟨gb, 0, none⟩ = some (.bool false)) ∧
    w.frozen? ⟨ge, 0, none⟩ = false ∧ w.frozen? ⟨gb, 0, none⟩ = false := by
  simp [World.cell?, World.frozen?, h.bn, h.be, h.bo, h.bb]

theorem tgO_of {w : World} {b o : Nat} {cs : Array Value} {t : TypeId} (h : w.heap[b]? = some (.cells cs t (0, 0))) (ho : o < cs.size) (ht : t ≠ 5) (hn : ∀ (i : Nat) (k : Int), cs[i]? ≠ some (Value.int .u8 k)) : TgO w b o := ⟨cs, t, h, ho, ht, hn⟩
theorem noT5 (a b : Int) (A B : Option Addr) (n c m d : Nat) (e : Int) : ∀ (i : Nat) (k : Int), (#[Value.int .i64 a, .int .i64 b, .slice A n c, .slice B m d, .int .i64 e] : Array Value)[i]? ≠ some (Value.int .u8 k) := by
  intro i k
  match i with
  | 0 => simp
  | 1 => simp
  | 2 => simp
  | 3 => simp
  | 4 => simp
  | n + 5 => simp
theorem noT1 (a : Int) : ∀ (i : Nat) (k : Int), (#[Value.int .i64 a] : Array Value)[i]? ≠ some (Value.int .u8 k) := by
  intro i k
  match i with
  | 0 => simp
  | n + 1 => simp

/-- Where the reading of a table's place stands: the result's block, the place's own block, the boxes, the reader; the two byte slices that it has. -/
structure StE (w : World) (g gn ge go gb : Nat) (n l : Int) (va : Value) (ya : Bs) (vb : Value) (yb : Bs) (s : Int) (x : Bs) (W : World) : Prop where
  b0 : W.heap[w.heap.size]? = some (.cells #[.int .i64 0, .int .i64 0, .slice none 0 0, .slice none 0 0, .int .i64 0] 42 (0, 0))
  b1 : W.heap[w.heap.size + 1]? = some (.cells #[.int .i64 n, .int .i64 l, va, vb, .int .i64 s] 42 (0, 0))
  bx : BxE W g gn ge go gb
  lt : gn < w.heap.size ∧ ge < w.heap.size ∧ go < w.heap.size ∧ gb < w.heap.size ∧ g < w.heap.size
  rd : Rdr W g x
  ch : Chg g w W
  oa : OwnB W w.heap.size va ya
  ob : OwnB W w.heap.size vb yb

theorem noT5v {n l s : Int} {va vb : Value} {w w' : World} {b b' : Nat} {ya yb : Bs} (ha : OwnB w b va ya) (hb : OwnB w' b' vb yb) : ∀ (i : Nat) (k : Int), (#[Value.int .i64 n, .int .i64 l, va, vb, .int .i64 s] : Array Value)[i]? ≠ some (Value.int .u8 k) := by
  obtain ⟨A, c, rfl, _⟩ := own_form ha.out
  obtain ⟨B, d, rfl, _⟩ := own_form hb.out
  exact noT5 _ _ _ _ _ _ _ _ _
section
variable {w W : World} {g gn ge go gb : Nat} {n l : Int} {va : Value} {ya : Bs} {vb : Value} {yb : Bs} {s : Int} {x : Bs}
theorem StE.chg (h : StE w g gn ge go gb n l va ya vb yb s x W) {W' : World} {x' : Bs} (hr : Rdr W' g x') (hc : Chg g W W') : StE w g gn ge go gb n l va ya vb yb s x' W' := by
  have k : ∀ z o, w.heap.size ≤ z → W.heap[z]? = some o → W'.heap[z]? = some o := fun z o h1 h2 => (hc.block z (Array.getElem?_eq_some_iff.1 h2).1 (fun e => by have := h.lt.2.2.2.2; cases e; omega)).trans h2
  obtain ⟨b, o, m, c, hg, _⟩ := h.rd
  exact ⟨k _ _ (Nat.le_refl _) h.b0, k _ _ (by omega) h.b1, h.bx.chg hc, h.lt, hr, h.ch.trans hc, h.oa.chg hg (by decide) hc, h.ob.chg hg (by decide) hc⟩
theorem StE.put (h : StE w g gn ge go gb n l va ya vb yb s x W) (o : Nat) (u : Value) {n' l' s' : Int} {va' vb' : Value} {ya' yb' : Bs} (he : (#[Value.int .i64 n, .int .i64 l, va, vb, .int .i64 s] : Array Value).setIfInBounds o u = #[.int .i64 n', .int .i64 l', va', vb', .int .i64 s'])
    (ha : OwnB W w.heap.size va' ya') (hb : OwnB W w.heap.size vb' yb') : StE w g gn ge go gb n' l' va' ya' vb' yb' s' x (W.setCell ⟨w.heap.size + 1, o, none⟩ u) := by
  have hno := noT5v (n := n) (l := l) (s := s) h.oa h.ob
  have hc : Chg (w.heap.size + 1) W (W.setCell ⟨w.heap.size + 1, o, none⟩ u) := (Chg.rfl_ _ W).setCell o u
  have lt := h.lt
  refine ⟨(Below.heap_setCell _ _ _ _ (by simp)).trans h.b0, ?_, h.bx.set (by omega) o u, lt, h.rd.chgN h.b1 (by decide) hno (by omega) hc, h.ch.setNew (by simp) u, ha.chg h.b1 (by decide) hc, hb.chg h.b1 (by decide) hc⟩
  rw [← he]
  exact heap_set _ _ _ _ _ _ h.b1
theorem StE.tg (h : StE w g gn ge go gb n l va ya vb yb s x W) (o : Nat) (ho : o < 5) : TgO W (w.heap.size + 1) o := tgO_of h.b1 (by simpa using ho) (by decide) (noT5v h.oa h.ob)
theorem StE.ext (h : StE w g gn ge go gb n l va ya vb yb s x W) {W' : World} (hx : Ext W W') : StE w g gn ge go gb n l va ya vb yb s x W' := h.chg (h.rd.ext hx) (Chg.of_ext hx)
/-- As cells. -/
theorem StE.cells (h : StE w g gn ge go gb n l va ya vb yb s x W) :
    (W.cell? ⟨w.heap.size + 1, 0, none⟩ = some (.int .i64 n) ∧ W.cell? ⟨w.heap.size + 1, 1, none⟩ = some (.int .i64 l) ∧ W.cell? ⟨w.heap.size + 1, 2, none⟩ = some va ∧ W.cell? ⟨w.heap.size + 1, 3, none⟩ = some vb ∧ W.cell? ⟨w.heap.size + 1, 4, none⟩ = some (.int .i64 s)) ∧
    (W.frozen? ⟨w.heap.size + 1, 0, none⟩ = false ∧ W.frozen? ⟨w.heap.size + 1, 1, none⟩ = false ∧ W.frozen? ⟨w.heap.size + 1, 2, none⟩ = false ∧ W.frozen? ⟨w.heap.size + 1, 3, none⟩ = false ∧ W.frozen? ⟨w.heap.size + 1, 4, none⟩ = false) := by
  simp [World.cell?, World.frozen?, h.b1]
end

theorem elt_of {W : World} {b : Nat} {A B : Option Addr} {n c m d : Nat} {t : Tab} (hp : placeT t = true) (ha : OwnB W b (.slice A n c) t.fst) (hb : OwnB W b (.slice B m d) t.lst) (base : Nat) : ElT W base ⟨A, n, c, B, m, d⟩ t := by
  obtain ⟨⟨p1, p2⟩, ⟨p3, p4⟩, ⟨p5, p6⟩, ⟨p7, p8⟩, p9, pa⟩ := place_parts hp
  have h1 := own_rd ha
  have h2 := own_rd hb
  obtain ⟨_, _, ea, la⟩ := own_form ha.out
  obtain ⟨_, _, eb, lb⟩ := own_form hb.out
  cases ea
  cases eb
  have k1 : t.fst.length ≤ B47 := by unfold B47; omega
  have k2 : t.lst.length ≤ B47 := by unfold B47; omega
  have i1 : I64 t.num := by unfold I64; omega
  have i2 : I64 t.lvl := by unfold I64; omega
  have i3 : I64 t.size := by unfold I64; omega
  exact ⟨⟨A, _, c, B, _, d, rfl, h1, h2, la, k1, lb, k2, i1, i2, i3⟩, Apt.own ha, Apt.own hb⟩

set_option maxRecDepth 100000 in
set_option maxHeartbeats 4000000 in
theorem eone_any (g gn ge go gb : Nat) (t : Tab) (r : Bs) (w : World) (hp : placeT t = true) (hx : Rdr w g (tabB t ++ r)) (hb : BxE w g gn ge go gb) :
    Calls Tryz.prog 65 #[.pointer (some ⟨g, 0, none⟩), .pointer (some ⟨gn, 0, none⟩), .pointer (some ⟨ge, 0, none⟩), .pointer (some ⟨go, 0, none⟩), .pointer (some ⟨gb, 0, none⟩)] w fun e w' =>
      ∃ h : HdT, e = .returned (.tuple #[.agg (cellsT h t).toArray, .int .i64 0]) ∧ (∀ base, ElT w' base h t) ∧ Rdr w' g r ∧ Chg g w w' := by
  obtain ⟨⟨p1, p2⟩, ⟨p3, p4⟩, ⟨p5, p6⟩, ⟨p7, p8⟩, p9, pa⟩ := place_parts hp
  have HP := Lib.hid hp
  have hp0 := Lib.hid hp
  have HX := Lib.hid hx
  have HB := Lib.hid hb
  have hgl := hx.lt
  have hlt : gn < w.heap.size ∧ ge < w.heap.size ∧ go < w.heap.size ∧ gb < w.heap.size := ⟨(Array.getElem?_eq_some_iff.1 hb.bn).1, (Array.getElem?_eq_some_iff.1 hb.be).1, (Array.getElem?_eq_some_iff.1 hb.bo).1, (Array.getElem?_eq_some_iff.1 hb.bb).1⟩
  have HLT := Lib.hid hlt
  obtain ⟨l1, l2, l3, l4⟩ := hlt
  have HNE := Lib.hid hb.ne
  -- the blocks of the call's own
  obtain ⟨z0, hz0⟩ : ∃ z, z = w.heap.size := ⟨_, rfl⟩
  obtain ⟨wA, hwA⟩ : ∃ W, W = (((w.alloc (.cells #[.int .i64 0, .int .i64 0, .slice none 0 0, .slice none 0 0, .int .i64 0] 42)).alloc (.cells #[.int .i64 0, .int .i64 0, .slice none 0 0, .slice none 0 0, .int .i64 0] 42)).alloc (.cells #[.int .i64 0] 2)).alloc
    (.cells #[.pointer (some ⟨w.heap.size + 1, 0, none⟩), .pointer (some ⟨w.heap.size + 1 + 1, 0, none⟩)] 99) := ⟨_, rfl⟩
  have hp' : ∀ (w : World) (o : Obj), (w.alloc o).heap = w.heap.push o := fun _ _ => rfl
  have hA : wA.heap[w.heap.size]? = some (.cells #[.int .i64 0, .int .i64 0, .slice none 0 0, .slice none 0 0, .int .i64 0] 42 (0, 0)) ∧ wA.heap[w.heap.size + 1]? = some (.cells #[.int .i64 0, .int .i64 0, .slice none 0 0, .slice none 0 0, .int .i64 0] 42 (0, 0)) ∧ wA.heap[w.heap.size + 1 + 1]? = some (.cells #[.int .i64 0] 2 (0, 0)) ∧
      wA.heap[w.heap.size + 1 + 1 + 1]? = some (.cells #[.pointer (some ⟨w.heap.size + 1, 0, none⟩), .pointer (some ⟨w.heap.size + 1 + 1, 0, none⟩)] 99 (0, 0)) ∧ wA.heap.size = w.heap.size + 4 := by
    subst hwA
    simp only [hp', Array.getElem?_push, Array.size_push]
    refine ⟨?_, ?_, ?_, ?_, trivial⟩ <;> (repeat (first | rfl | rw [if_neg (by omega)]))
  have xA : Ext w wA := by rw [hwA]; exact ((((Ext.rfl_ w).alloc _).alloc _).alloc _).alloc _
  have HA := Lib.hid hA
  have XA := Lib.hid xA
  have HBA := Lib.hid (hb.ext xA)
  have HXA := Lib.hid (show Rdr wA g (numsB [(w.heap.size + 1, 0, t.num.toNat), (w.heap.size + 1 + 1, 0, t.lvl.toNat)] ++ (bytB t.fst ++ (bytB t.lst ++ (numB t.size.toNat ++ r)))) from by
    have := hx.ext xA
    unfold tabB at this
    simpa [numsB] using this)
  obtain ⟨⟨q0, _, _, _⟩, _⟩ := (hb.ext (show Ext w (((w.alloc (.cells #[.int .i64 0, .int .i64 0, .slice none 0 0, .slice none 0 0, .int .i64 0] 42)).alloc (.cells #[.int .i64 0, .int .i64 0, .slice none 0 0, .slice none 0 0, .int .i64 0] 42)).alloc (.cells #[.int .i64 0] 2)) from (by with_reducible (repeat (first | exact Ext.rfl_ _ | assumption | refine Ext.drew ?_ | refine Ext.drewN ?_ _ | refine Ext.alloc ?_ _ | refine Ext.trans ?_ (by assumption)))))).cells
  clear hx hb hp hA hz0 hp' xA
  go_enter Tryz.func65, Tryz.ntmps65
  go_wp2_with fail
  rw [← hwA]
  refine (enums_any g go gb (w.heap.size + 1 + 1 + 1) [(w.heap.size + 1, 0, t.num.toNat), (w.heap.size + 1 + 1, 0, t.lvl.toNat)] _ wA HXA.out ?_ HBA.out.bo HBA.out.bb HA.out.2.2.2.1 ?_ ?_ ?_ (by simp)).mono ?_
  · intro q hq
    simp at hq
    rcases hq with rfl | rfl <;> simp <;> omega
  · intro q hq
    simp at hq
    rcases hq with rfl | rfl
    · exact tgO_of HA.out.2.1 (by simp) (by decide) (noT5 _ _ _ _ _ _ _ _ _)
    · exact tgO_of HA.out.2.2.1 (by simp) (by decide) (noT1 _)
  · have := HNE.out
    exact ⟨this.2.2.1, this.2.2.2, by omega⟩
  · intro q hq
    simp at hq
    rcases hq with rfl | rfl <;> simp <;> omega
  rintro e w1 ⟨rfl, hr1, hc1⟩
  clear q0
  -- behind the two numbers
  have hS1 : StE w g gn ge go gb t.num 0 (.slice none 0 0) [] (.slice none 0 0) [] 0 (bytB t.fst ++ (bytB t.lst ++ (numB t.size.toNat ++ r))) w1 ∧ w1.heap[w.heap.size + 1 + 1]? = some (.cells #[.int .i64 t.lvl] 2 (0, 0)) := by
    have lt := HLT.out
    have z1 : (t.num.toNat : Int) = t.num := Int.toNat_of_nonneg (by omega)
    have z2 : (t.lvl.toNat : Int) = t.lvl := Int.toNat_of_nonneg p3
    have e : setsQ wA [(w.heap.size + 1, 0, t.num.toNat), (w.heap.size + 1 + 1, 0, t.lvl.toNat)] = (wA.setCell ⟨w.heap.size + 1, 0, none⟩ (.int .i64 t.num)).setCell ⟨w.heap.size + 1 + 1, 0, none⟩ (.int .i64 t.lvl) := by
      show (wA.setCell ⟨w.heap.size + 1, 0, none⟩ (.int .i64 (t.num.toNat : Int))).setCell ⟨w.heap.size + 1 + 1, 0, none⟩ (.int .i64 (t.lvl.toNat : Int)) = _
      rw [z1, z2]
    rw [e] at hc1
    have hs0 : StE w g gn ge go gb 0 0 (.slice none 0 0) [] (.slice none 0 0) [] 0 _ wA := ⟨HA.out.1, HA.out.2.1, HBA.out, ⟨lt.1, lt.2.1, lt.2.2.1, lt.2.2.2, hgl⟩, HXA.out, Chg.of_ext XA.out, OwnB.nil _ _, OwnB.nil _ _⟩
    have hs1 := hs0.put 0 (.int .i64 t.num) (n' := t.num) (l' := 0) (s' := 0) rfl (OwnB.nil _ _) (OwnB.nil _ _)
    have hb2 : (wA.setCell ⟨w.heap.size + 1, 0, none⟩ (.int .i64 t.num)).heap[w.heap.size + 1 + 1]? = some (.cells #[.int .i64 0] 2 (0, 0)) := (Below.heap_setCell _ _ _ _ (by simp)).trans HA.out.2.2.1
    have hcz : Chg (w.heap.size + 1 + 1) (wA.setCell ⟨w.heap.size + 1, 0, none⟩ (.int .i64 t.num)) ((wA.setCell ⟨w.heap.size + 1, 0, none⟩ (.int .i64 t.num)).setCell ⟨w.heap.size + 1 + 1, 0, none⟩ (.int .i64 t.lvl)) := (Chg.rfl_ _ _).setCell 0 _
    have hs2 : StE w g gn ge go gb t.num 0 (.slice none 0 0) [] (.slice none 0 0) [] 0 _ ((wA.setCell ⟨w.heap.size + 1, 0, none⟩ (.int .i64 t.num)).setCell ⟨w.heap.size + 1 + 1, 0, none⟩ (.int .i64 t.lvl)) :=
      ⟨(Below.heap_setCell _ _ _ _ (by simp; omega)).trans hs1.b0, (Below.heap_setCell _ _ _ _ (by simp)).trans hs1.b1, hs1.bx.set (by omega) _ _, hs1.lt, hs1.rd.chgN hb2 (by decide) (noT1 _) (by omega) hcz, hs1.ch.setNew (by simp; omega) _, OwnB.nil _ _, OwnB.nil _ _⟩
    refine ⟨hs2.chg hr1 hc1, ?_⟩
    have hz : ((wA.setCell ⟨w.heap.size + 1, 0, none⟩ (.int .i64 t.num)).setCell ⟨w.heap.size + 1 + 1, 0, none⟩ (.int .i64 t.lvl)).heap[w.heap.size + 1 + 1]? = some (.cells #[.int .i64 t.lvl] 2 (0, 0)) := heap_set _ _ _ _ _ _ hb2
    exact (hc1.block _ (Array.getElem?_eq_some_iff.1 hz).1 (fun e => by cases e; omega)).trans hz
  have HS1 := Lib.hid hS1
  clear hS1 hr1 hc1 hwA
  have hlv : w1.cell? ⟨w.heap.size + 1 + 1, 0, none⟩ = some (.int .i64 t.lvl) := by unfold World.cell?; simp [HS1.out.2]
  obtain ⟨⟨c0, c1, c2, c3, c4⟩, d0, d1, d2, d3, d4⟩ := HS1.out.1.cells
  obtain ⟨W2, hW2⟩ : ∃ W, W = w1.setCell ⟨w.heap.size + 1, 1, none⟩ (.int .i64 t.lvl) := ⟨_, rfl⟩
  have HS2 := Lib.hid (HS1.out.1.put 1 (.int .i64 t.lvl) (n' := t.num) (l' := t.lvl) (s' := 0) rfl (OwnB.nil _ _) (OwnB.nil _ _))
  rw [← hW2] at HS2
  go_wp2_with fail
  rw [← hW2]
  clear hlv c0 c1 c2 c3 c4 d0 d1 d2 d3 d4
  refine (rbytes_ok g 32 _ t.fst _ W2 HS2.out.rd (by decide) (getB_bytW (by omega) (by decide))).mono ?_
  rintro e w3 ⟨v3, rfl, o3, r3, k3⟩
  obtain ⟨A3, n3, m3, rfl, _⟩ := o3.formN
  have hS3 := HS2.out.chg r3 k3
  have hO3 : OwnB w3 w.heap.size (.slice A3 n3 m3) t.fst := o3.mono HS2.out.ch.size
  have HS3 := Lib.hid (hS3.put 2 (.slice A3 n3 m3) (n' := t.num) (l' := t.lvl) (s' := 0) (va' := .slice A3 n3 m3) (ya' := t.fst) rfl hO3 (OwnB.nil _ _))
  obtain ⟨⟨c0, c1, c2, c3, c4⟩, d0, d1, d2, d3, d4⟩ := hS3.cells
  obtain ⟨⟨_, e1, e2, e3⟩, g1, g2⟩ := HS3.out.bx.cells
  have hself := setCell_self e1
  clear o3 r3 k3 hS3 hO3
  go_wp2_with fail
  refine (eok_any gb _ e3 g2).mono ?_
  rintro e w4 ⟨rfl, rfl⟩
  clear c0 c1 c2 c3 c4 d0 d1 d2 d3 d4 e1 e2 e3 g1 g2 hself
  -- the last key
  obtain ⟨W3, hW3⟩ : ∃ W, W = w3.setCell ⟨w.heap.size + 1, 2, none⟩ (.slice A3 n3 m3) := ⟨_, rfl⟩
  rw [← hW3] at HS3
  go_wp2_with fail
  rw [← hW3]
  refine (rbytes_ok g 32 _ t.lst _ W3 HS3.out.rd (by decide) (getB_bytW (by omega) (by decide))).mono ?_
  rintro e w5 ⟨v5, rfl, o5, r5, k5⟩
  obtain ⟨A5, n5, m5, rfl, _⟩ := o5.formN
  have hS5 := HS3.out.chg r5 k5
  have hO5 : OwnB w5 w.heap.size (.slice A5 n5 m5) t.lst := o5.mono HS3.out.ch.size
  have HS5 := Lib.hid (hS5.put 3 (.slice A5 n5 m5) (n' := t.num) (l' := t.lvl) (s' := 0) (va' := .slice A3 n3 m3) (vb' := .slice A5 n5 m5) (yb' := t.lst) rfl hS5.oa hO5)
  obtain ⟨⟨c0, c1, c2, c3, c4⟩, d0, d1, d2, d3, d4⟩ := hS5.cells
  obtain ⟨⟨_, e1, e2, e3⟩, g1, g2⟩ := HS5.out.bx.cells
  have hself := setCell_self e1
  clear o5 r5 k5 hS5 hO5
  go_wp2_with fail
  refine (eok_any gb _ e3 g2).mono ?_
  rintro e w6 ⟨rfl, rfl⟩
  clear c0 c1 c2 c3 c4 d0 d1 d2 d3 d4 e1 e2 e3 g1 g2 hself
  -- the size
  obtain ⟨W5, hW5⟩ : ∃ W, W = w5.setCell ⟨w.heap.size + 1, 3, none⟩ (.slice A5 n5 m5) := ⟨_, rfl⟩
  rw [← hW5] at HS5
  obtain ⟨⟨e0, _, _, _⟩, _, _⟩ := HS5.out.bx.cells
  obtain ⟨W6, hW6⟩ : ∃ W, W = W5.alloc (.cells #[.pointer (some ⟨w.heap.size + 1, 4, none⟩)] 99) := ⟨_, rfl⟩
  have HS6 := Lib.hid (show StE w g gn ge go gb t.num t.lvl (.slice A3 n3 m3) t.fst (.slice A5 n5 m5) t.lst 0 _ W6 from by rw [hW6]; exact HS5.out.ext (Ext.alloc (Ext.rfl_ _) _))
  have HP6 := Lib.hid (show W6.heap[W5.heap.size]? = some (.cells #[.pointer (some ⟨w.heap.size + 1, 4, none⟩)] 99 (0, 0)) from by rw [hW6]; exact heap_alloc_new _ _)
  have z5 : w.heap.size + 1 < W5.heap.size := (Array.getElem?_eq_some_iff.1 HS5.out.b1).1
  have hsz : W5.heap.size = w5.heap.size := by rw [hW5]; simp [World.setCell]
  rw [hsz] at HP6 z5
  go_wp2_with fail
  rw [← hW5, ← hW6]
  refine (enums_any g go gb w5.heap.size [(w.heap.size + 1, 4, t.size.toNat)] r W6 (by have := HS6.out.rd; simpa [numsB] using this) ?_ HS6.out.bx.bo HS6.out.bx.bb HP6.out ?_ ?_ ?_ (by simp)).mono ?_
  · intro q hq
    simp at hq
    rcases hq with rfl
    simp
    omega
  · intro q hq
    simp at hq
    rcases hq with rfl
    exact HS6.out.tg 4 (by omega)
  · have := HNE.out
    exact ⟨this.2.2.1, this.2.2.2, by omega⟩
  · intro q hq
    simp at hq
    rcases hq with rfl
    simp
    omega
  rintro e w7 ⟨rfl, hr7, hc7⟩
  have HS7 : Hid (StE w g gn ge go gb t.num t.lvl (.slice A3 n3 m3) t.fst (.slice A5 n5 m5) t.lst t.size r w7) := by
    have z3 : (t.size.toNat : Int) = t.size := Int.toNat_of_nonneg (by omega)
    have e : setsQ W6 [(w.heap.size + 1, 4, t.size.toNat)] = W6.setCell ⟨w.heap.size + 1, 4, none⟩ (.int .i64 t.size) := by
      show W6.setCell ⟨w.heap.size + 1, 4, none⟩ (.int .i64 (t.size.toNat : Int)) = _
      rw [z3]
    rw [e] at hc7
    exact Lib.hid ((HS6.out.put 4 (.int .i64 t.size) (n' := t.num) (l' := t.lvl) (s' := t.size) rfl HS6.out.oa HS6.out.ob).chg hr7 hc7)
  clear hr7 hc7 e0
  obtain ⟨⟨c0, c1, c2, c3, c4⟩, d0, d1, d2, d3, d4⟩ := HS7.out.cells
  obtain ⟨⟨_, _, _, e3⟩, _, _⟩ := HS7.out.bx.cells
  go_wp2_with fail
  refine (place_any _ t _ (elt_of hp0.out HS7.out.oa HS7.out.ob 0).1).mono ?_
  rintro e w8 ⟨rfl, hw8⟩
  rw [HP.out]
  have HS8 := Lib.hid (HS7.out.ext hw8)
  clear c0 c1 c2 c3 c4 d0 d1 d2 d3 d4 e3 hw8
  obtain ⟨⟨c0, c1, c2, c3, c4⟩, d0, d1, d2, d3, d4⟩ := HS8.out.cells
  obtain ⟨_, _, _, _, _, f0, f1, f2, f3, f4⟩ := box5 HS8.out.b0 (Ext.rfl_ w8)
  obtain ⟨z0, z1, z2, z3, z4, _⟩ := box5 (set5 HS8.out.b0 (.int .i64 t.num) (.int .i64 t.lvl) (.slice A3 n3 m3) (.slice A5 n5 m5) (.int .i64 t.size)) (Ext.rfl_ _)
  obtain ⟨_, _, _, _, _, _⟩ := box5 HS8.out.b0 (Ext.rfl_ w8)
  go_wp2
  refine bodyPost_ret (v := .tuple #[.agg (cellsT ⟨A3, n3, m3, A5, n5, m5⟩ t).toArray, .int .i64 0]) (by simp [results, Tryz.f65, go_sem, z0, z1, z2, z3, z4, cellsT]) rfl ?_
  have hg5 := grown5 w8 w.heap.size (.int .i64 t.num) (.int .i64 t.lvl) (.slice A3 n3 m3) (.slice A5 n5 m5) (.int .i64 t.size)
  have h8 := HS8.out
  refine ⟨⟨A3, n3, m3, A5, n5, m5⟩, rfl, fun base => elt_of hp0.out (h8.oa.chg h8.b0 (by decide) hg5) (h8.ob.chg h8.b0 (by decide) hg5) base, h8.rd.chgN h8.b0 (by decide) (noT5 _ _ _ _ _ _ _ _ _) (by have := h8.lt; omega) hg5, ?_⟩
  exact ((((h8.ch.setNew (by simp) _).setNew (by simp) _).setNew (by simp) _).setNew (by simp) _).setNew (by simp) _


open Go.RowKit

theorem one_noV {A : Option Addr} {n c : Nat} : ∀ (i : Nat) (z : Int), (#[Value.slice A n c] : Array Value)[i]? ≠ some (.int .u8 z) := by
  intro i z
  match i with
  | 0 => simp
  | n + 1 => simp
theorem Apt.chgN {w w' : World} {base z : Nat} {A : Option Addr} {n : Nat} {cs : Array Value} {t : TypeId} {fr : Nat × Nat} (h : Apt w base A n) (hg : w.heap[z]? = some (.cells cs t fr)) (ht : t ≠ 5) (hc : Chg z w w') : Apt w' base A n := fun hn a e => by
  rcases h hn a e with h1 | ⟨cs', fr', h1⟩
  · exact .inl h1
  · refine .inr ⟨cs', fr', (hc.block _ (Array.getElem?_eq_some_iff.1 h1).1 (fun e2 => ?_)).trans h1⟩
    cases e2
    rw [hg] at h1
    simp at h1
    exact ht h1.2.1
theorem ElT.chgN {w w' : World} {base z : Nat} {h : HdT} {x : Tab} {cs : Array Value} {t : TypeId} {fr : Nat × Nat} (e : ElT w base h x) (hg : w.heap[z]? = some (.cells cs t fr)) (ht : t ≠ 5) (hcs : ∀ (i : Nat) (k : Int), cs[i]? ≠ some (Value.int .u8 k)) (hc : Chg z w w') : ElT w' base h x := by
  obtain ⟨⟨A, n, c, B, m, d, hv, r1, r2, rest⟩, a1, a2⟩ := e
  exact ⟨⟨A, n, c, B, m, d, hv, r1.chgN hg hcs hc, r2.chgN hg hcs hc, rest⟩, a1.chgN hg ht hc, a2.chgN hg ht hc⟩
theorem OwnT.chgN {w w' : World} {base z : Nat} {v : Value} {xs : List Tab} {cs : Array Value} {t : TypeId} {fr : Nat × Nat} (h : OwnT w base v xs) (hg : w.heap[z]? = some (.cells cs t fr)) (ht : t ≠ 5) (hcs : ∀ (i : Nat) (k : Int), cs[i]? ≠ some (Value.int .u8 k)) (hne : v.ownBlock ≠ some z) (hc : Chg z w w') : OwnT w' base v xs := by
  obtain ⟨hs, hl, ho, hr⟩ := h
  refine ⟨hs, hl, World.ownsRow.kept (row := some z) ho hc ?_, fun k h1 h2 => (hr k h1 h2).chgN hg ht hcs hc⟩
  rcases ho.2 with ⟨rfl, _⟩ | ⟨g', cap, cur, rfl, _, hg', _⟩
  · exact .inl rfl
  · exact .inr (fun e => hne e)
theorem OwnT.ne {w : World} {base z : Nat} {v : Value} {xs : List Tab} {cs : Array Value} {t : TypeId} {fr : Nat × Nat} (h : OwnT w base v xs) (hg : w.heap[z]? = some (.cells cs t fr)) (ht : t ≠ 42) : v.ownBlock ≠ some z := fun e => h.apart hg ht e.symm
theorem OwnT.chgR {w w' : World} {g base : Nat} {v : Value} {xs : List Tab} {y : Bs} (h : OwnT w base v xs) (hr : Rdr w g y) (hc : Chg g w w') : OwnT w' base v xs := by
  obtain ⟨b, o, n, c, hg, _⟩ := hr
  exact h.chgN hg (by decide) one_noV (h.ne hg (by decide)) hc
theorem OwnT.rowTy {w : World} {base : Nat} {v : Value} {xs : List Tab} (h : OwnT w base v xs) : ∀ k, v.ownBlock = some k → ∃ cs fr, w.heap[k]? = some (.cells cs 42 fr) := by
  intro k hk
  obtain ⟨hs, hl, ho, _⟩ := h
  rcases ho.2 with ⟨rfl, _⟩ | ⟨g', cap, cur, rfl, _, hg', _⟩
  · cases hk
  · simp [Value.ownBlock] at hk
    subst hk
    exact ⟨_, _, hg'⟩
theorem Rdr.growT {w w' : World} {g : Nat} {x : Bs} {row : Option Nat} (h : Rdr w g x) (hg : w.grownBy w' row) (hr : ∀ k, row = some k → ∃ cs fr, w.heap[k]? = some (.cells cs 42 fr)) : Rdr w' g x := by
  obtain ⟨b, o, n, c, h1, ⟨h2, cs, fr, h3⟩, h4⟩ := h
  have hgk : w'.heap[g]? = _ := (hg.block g (Array.getElem?_eq_some_iff.1 h1).1 (fun e => by obtain ⟨cs', fr', h5⟩ := hr g e.symm; rw [h1] at h5; simp at h5)).trans h1
  have hbk : w'.heap[b]? = w.heap[b]? := hg.block b (Array.getElem?_eq_some_iff.1 h3).1 (fun e => by obtain ⟨cs', fr', h5⟩ := hr b e.symm; rw [h3] at h5; simp at h5)
  refine ⟨b, o, n, c, hgk, ⟨⟨h2.1, fun hn => ?_⟩, cs, fr, hbk.trans h3⟩, h4⟩
  obtain ⟨b', o', e, hc⟩ := h2.2 hn
  cases e
  refine ⟨b, o, rfl, fun j hj => ?_⟩
  have := hc j hj
  unfold World.cell? at *
  rw [hbk]; exact this
theorem Chg.grownNew {g : Nat} {a w w' : World} {row : Option Nat} (h : Chg g a w) (hg : w.grownBy w' row) (hr : ∀ k, row = some k → a.heap.size ≤ k) : Chg g a w' :=
  ⟨hg.os.trans h.os, hg.tape.trans h.tape, hg.output.trans h.output, Nat.le_trans h.size hg.size, fun k hk hne => (hg.block k (Nat.lt_of_lt_of_le hk h.size) (fun e => by have := hr k e.symm; omega)).trans (h.block k hk hne)⟩
theorem Chg.blkV {g k : Nat} {a b : World} {o : Obj} (h : Chg g a b) (hk : a.heap[k]? = some o) (hne : k ≠ g) : b.heap[k]? = some o := (h.block k (Array.getElem?_eq_some_iff.1 hk).1 (fun e => hne (by cases e; rfl))).trans hk
theorem BxE.at_ {w : World} {g g' gn ge go gb : Nat} (h : BxE w g gn ge go gb) (hne : gn ≠ g' ∧ ge ≠ g' ∧ go ≠ g' ∧ gb ≠ g') : BxE w g' gn ge go gb := ⟨h.bn, h.be, h.bo, h.bb, hne⟩
theorem BxE.lt {w : World} {g gn ge go gb : Nat} (h : BxE w g gn ge go gb) : gn < w.heap.size ∧ ge < w.heap.size ∧ go < w.heap.size ∧ gb < w.heap.size :=
  ⟨(Array.getElem?_eq_some_iff.1 h.bn).1, (Array.getElem?_eq_some_iff.1 h.be).1, (Array.getElem?_eq_some_iff.1 h.bo).1, (Array.getElem?_eq_some_iff.1 h.bb).1⟩

/-- The function that reads one table. -/
def fnV (gn ge go gb : Nat) : Value := .func (.func 65) #[] #[.pointer (some ⟨gn, 0, none⟩), .pointer (some ⟨ge, 0, none⟩), .pointer (some ⟨go, 0, none⟩), .pointer (some ⟨gb, 0, none⟩)]

set_option maxRecDepth 100000 in
set_option maxHeartbeats 4000000 in
theorem take1T_any (g z gn ge go gb : Nat) (ts : List Tab) (r : Bs) (w : World) (hm : ∀ t ∈ ts, placeT t = true) (hx : Rdr w g ((ts.map tabB).flatten ++ r)) (hb : BxE w g gn ge go gb) (hz : w.heap[z]? = some (.cells #[fnV gn ge go gb] 108 (0, 0))) (hzg : z ≠ g) (hn : ts.length ≤ 4096) :
    Calls Tryz.prog 90 #[.pointer (some ⟨g, 0, none⟩), .int .i64 ts.length, .pointer (some ⟨z, 0, none⟩)] w fun e w' => ∃ A c, e = .returned (.tuple #[.slice A ts.length c, .int .i64 0]) ∧ OwnT w' w.heap.size (.slice A ts.length c) ts ∧ Rdr w' g r ∧ Chg g w w' := by
  have HM := Lib.hid hm
  have HX := Lib.hid hx
  have HB := Lib.hid hb
  have HZ := Lib.hid hz
  have hzl : z < w.heap.size := (Array.getElem?_eq_some_iff.1 hz).1
  have hgl := hx.lt
  clear hx hz hm hb
  go_enter Tryz.func90, Tryz.ntmps90
  go_wp2
  go_loopw [5, 6] (fun v ev wr => ∃ (k : Nat) (A : Option Addr) (c : Nat), v = .slice A k c ∧ ev = .int .i64 0 ∧ k ≤ ts.length ∧ Hid (OwnT wr w.heap.size (.slice A k c) (ts.take k)) ∧ Hid (Rdr wr g (((ts.drop k).map tabB).flatten ++ r)) ∧ Hid (Chg g w wr))
    (fun v _ _ => match v with | .slice _ n _ => ts.length - n | _ => 0)
  case atStart => exact ⟨0, none, 0, rfl, rfl, Nat.zero_le _, Lib.hid (OwnT.nil _ _), HX, Lib.hid (Chg.rfl_ _ _)⟩
  case round =>
    obtain ⟨k, A, c, rfl, rfl, hk, ho, hr, hch⟩ := hrel
    by_cases c1 : (k : Int) < (ts.length : Int)
    · have hlt : k < ts.length := by omega
      obtain ⟨t, ht⟩ : ∃ t, t = ts[k] := ⟨_, rfl⟩
      have hmem : t ∈ ts := by rw [ht]; exact List.getElem_mem _
      have hdrop : ts.drop k = t :: ts.drop (k + 1) := by rw [ht]; exact List.drop_eq_getElem_cons hlt
      have htake : ts.take (k + 1) = ts.take k ++ [t] := by rw [ht]; exact List.take_succ_eq_append_getElem hlt
      have HTK := Lib.hid htake
      have HPL := Lib.hid (HM.out t hmem)
      have HBR := Lib.hid (HB.out.chg hch.out)
      have HR := Lib.hid (show Rdr wr g (tabB t ++ (((ts.drop (k + 1)).map tabB).flatten ++ r)) from by have := hr.out; rw [hdrop] at this; simpa using this)
      have hz2 := hch.out.blkV HZ.out hzg
      have hzc : wr.cell? ⟨z, 0, none⟩ = some (.func (.func 65) #[] #[.pointer (some ⟨gn, 0, none⟩), .pointer (some ⟨ge, 0, none⟩), .pointer (some ⟨go, 0, none⟩), .pointer (some ⟨gb, 0, none⟩)]) := by simp [World.cell?, hz2, fnV]
      have hgr : g < wr.heap.size := hr.out.lt
      have hzr : z < wr.heap.size := (Array.getElem?_eq_some_iff.1 hz2).1
      have HT := Lib.hid (blk1 wr (.cells #[.int .i64 0, .int .i64 0, .slice none 0 0, .slice none 0 0, .int .i64 0] 42))
      have hwr : w.heap.size ≤ wr.heap.size := hch.out.size
      clear ht hmem hdrop htake hz2 hr
      go_wp2_with fail
      refine (eone_any g gn ge go gb t _ _ HPL.out (HR.out.ext (by with_reducible (repeat (first | exact Ext.rfl_ _ | assumption | refine Ext.drew ?_ | refine Ext.drewN ?_ _ | refine Ext.alloc ?_ _ | refine Ext.trans ?_ (by assumption))))) (HBR.out.ext (by with_reducible (repeat (first | exact Ext.rfl_ _ | assumption | refine Ext.drew ?_ | refine Ext.drewN ?_ _ | refine Ext.alloc ?_ _ | refine Ext.trans ?_ (by assumption)))))).mono ?_
      rintro e w1 ⟨h, rfl, he, hr1, hc1⟩
      have HE1 := Lib.hid (he w.heap.size)
      have HT1 := Lib.hid (hc1.blkV HT.out (by omega))
      have HO1 := Lib.hid ((ho.out.ext (Ext.alloc (Ext.rfl_ _) _)).chgR (HR.out.ext (Ext.alloc (Ext.rfl_ _) _)) hc1)
      have HCH1 := Lib.hid (hch.out.trans ((Chg.of_ext (Ext.alloc (Ext.rfl_ _) _)).trans hc1))
      have HR1 := Lib.hid hr1
      have hw1 : wr.heap.size < w1.heap.size := by have := hc1.size; simp at this; omega
      have HOWN := Lib.hid ho.out.lt
      obtain ⟨A1, n1, d1, B1, m1, f1⟩ := h
      obtain ⟨z0, z1, z2, z3, z4, y0, y1, y2, y3, y4⟩ := box5 HT1.out (Ext.rfl_ w1)
      rw [show (cellsT ⟨A1, n1, d1, B1, m1, f1⟩ t).toArray = #[.int .i64 t.num, .int .i64 t.lvl, .slice A1 n1 d1, .slice B1 m1 f1, .int .i64 t.size] from rfl]
      clear hc1 hr1 he hzc ho hch HT
      obtain ⟨W1, hW1⟩ : ∃ W, W = ((((w1.setCell ⟨wr.heap.size, 0, none⟩ (.int .i64 t.num)).setCell ⟨wr.heap.size, 1, none⟩ (.int .i64 t.lvl)).setCell ⟨wr.heap.size, 2, none⟩ (.slice A1 n1 d1)).setCell ⟨wr.heap.size, 3, none⟩ (.slice B1 m1 f1)).setCell ⟨wr.heap.size, 4, none⟩ (.int .i64 t.size) := ⟨_, rfl⟩
      have hcw : Chg wr.heap.size w1 W1 := by rw [hW1]; exact grown5 _ _ _ _ _ _ _
      have hsz : W1.heap.size = w1.heap.size := by rw [hW1]; simp [World.setCell]
      have HSW := Lib.hid hsz
      have HEW := Lib.hid (HE1.out.chgN HT1.out (by decide) (noT5 _ _ _ _ _ _ _ _ _) hcw)
      have HOW := Lib.hid (HO1.out.chgN HT1.out (by decide) (noT5 _ _ _ _ _ _ _ _ _) (fun e => by have := (HOWN.out _ e).2; omega) hcw)
      have HRW := Lib.hid (HR1.out.chgN HT1.out (by decide) (noT5 _ _ _ _ _ _ _ _ _) (by omega) hcw)
      have HCW : Hid (Chg g w W1) := by rw [hW1]; exact Lib.hid (((((HCH1.out.setNew hwr _).setNew hwr _).setNew hwr _).setNew hwr _).setNew hwr _)
      have HBS := Lib.hid (show w.heap.size ≤ W1.heap.size by rw [hsz]; omega)
      have HLN := Lib.hid (show (ts.take k).length + 1 ≤ B40 by rw [List.length_take]; unfold B40; omega)
      clear hcw hsz
      subst hW1
      go_wp2_with (at_builtin; refine wp_appT rfl _ _ rfl w.heap.size _ (ts.take k) rfl (HOW.out.ext (Ext.alloc (Ext.rfl_ _) _)) _ 1 1 [t] rfl (by have := RdTa.one (h := ⟨A1, n1, d1, B1, m1, f1⟩) 42 HEW.out; rw [HSW.out] at this; exact this) (by simpa using HLN.out) (Nat.le_trans HBS.out (by simp)) ?_; intro v5 w5 o5 g5 _; have hc5 : Chg g w w5 := Chg.grownNew (HCW.out.trans (Chg.of_ext (Ext.alloc (Ext.rfl_ _) _))) g5 (fun k hk => (HOW.out.lt k hk).1); have HR5 := Lib.hid (Rdr.growT (HRW.out.ext (Ext.alloc (Ext.rfl_ _) _)) g5 (HOW.out.ext (Ext.alloc (Ext.rfl_ _) _)).rowTy); have HC5 := Lib.hid hc5; obtain ⟨A5, c5, hv5, _⟩ := o5.form (by rw [List.length_append, List.length_take]; simp; unfold B47; omega); subst hv5; have HO5 := Lib.hid o5; have hl5 : (ts.take k ++ [t]).length = k + 1 := (by rw [List.length_append, List.length_take]; simp; omega); rw [hl5] at HO5 ⊢; clear o5 g5 hc5 hl5)
      go_roundw
      case rel =>
        refine ⟨k + 1, A5, c5, rfl, rfl, by omega, ?_, HR5, HC5⟩
        rw [HTK.out]
        exact HO5
      case measure => dsimp only; omega
    · obtain rfl : k = ts.length := by omega
      have HO2 := Lib.hid (show OwnT wr w.heap.size (.slice A ts.length c) ts from by have := ho.out; rwa [List.take_length] at this)
      have HR2 := Lib.hid (show Rdr wr g r from by have := hr.out; rwa [List.drop_length] at this)
      go_wp2
      go_ret2
      exact ⟨A, c, rfl, HO2.out, HR2.out, hch.out⟩


open Go.RowKit

set_option maxRecDepth 100000 in
set_option maxHeartbeats 4000000 in
theorem tryT_any (g z gn ge go gb : Nat) (ts : List Tab) (r : Bs) (w : World) (hm : ∀ t ∈ ts, placeT t = true) (hx : Rdr w g (addB ts ++ r)) (hb : BxE w g gn ge go gb) (hz : w.heap[z]? = some (.cells #[fnV gn ge go gb] 108 (0, 0))) (hzg : z ≠ g) (hn : ts.length ≤ 4096) :
    Calls Tryz.prog 89 #[.pointer (some ⟨g, 0, none⟩), .int .i64 4096, .func (.func 90) #[] #[.pointer (some ⟨z, 0, none⟩)]] w fun e w' => ∃ A c b0, e = .returned (.tuple #[.slice A ts.length c, .int .i64 0]) ∧
      w.heap.size ≤ b0 ∧ OwnT w' b0 (.slice A ts.length c) ts ∧ Rdr w' g r ∧ Chg g w w' := by
  have HX := Lib.hid hx
  have HM := Lib.hid hm
  have HB := Lib.hid hb
  obtain ⟨b, o, m, c, hc, hf, hr, hnc, hn4, hg, hty⟩ := hx.cellsT
  have hlt := hx.lt
  have hzl : z < w.heap.size := (Array.getElem?_eq_some_iff.1 hz).1
  have HZ := Lib.hid hz
  have HG := Lib.hid hg
  have HR0 := Lib.hid (show Rdr (w.alloc (.cells #[.slice (some ⟨b, o, none⟩) m c] 123)) w.heap.size (addB ts ++ r) from ⟨b, o, m, c, heap_alloc_new w _, ⟨hr.ext (by with_reducible (repeat (first | exact Ext.rfl_ _ | assumption | refine Ext.drew ?_ | refine Ext.drewN ?_ _ | refine Ext.alloc ?_ _ | refine Ext.trans ?_ (by assumption)))), hty.ext (by with_reducible (repeat (first | exact Ext.rfl_ _ | assumption | refine Ext.drew ?_ | refine Ext.drewN ?_ _ | refine Ext.alloc ?_ _ | refine Ext.trans ?_ (by assumption))))⟩, hnc, hn4⟩)
  have HN := Lib.hid (show getN (addB ts ++ r) = some (ts.length, (ts.map tabB).flatten ++ r) from by unfold addB; rw [List.append_assoc]; exact getN_numB (by omega))
  have hbl := hb.lt
  have hwn : IntKind.i64.wrap (ts.length : Int) = (ts.length : Int) := by rw [IntKind.wrap_i64]; omega
  clear hr hg hn4 hx hz hty hm hb
  go_enter Tryz.func89, Tryz.ntmps89
  go_wp2_with (go_at_call 93; refine (closed_any g _ _ HX.out).mono ?_; rintro e w' ⟨rfl, rfl⟩)
  refine (rnum_ok w.heap.size _ _ ts.length _ HR0.out HN.out).mono ?_
  rintro e w1 ⟨rfl, hr1, hch1⟩
  have hch0 : Chg w.heap.size w w1 := (Chg.of_ext (Ext.alloc (Ext.rfl_ w) _)).trans hch1
  have HCH0 := Lib.hid hch0
  have HR1 := Lib.hid hr1
  have HB1 := Lib.hid ((HB.out.chg (Chg.of_ext (Ext.chg (Ext.rfl_ w) hch0 (Nat.le_refl _)))).at_ (g' := w.heap.size) (by omega))
  clear hch1 hch0 hr1
  go_wp2_with fail
  refine (take1T_any w.heap.size z gn ge go gb ts r _ HM.out HR1.out HB1.out (HCH0.out.blkV HZ.out (by omega)) (by omega) hn).mono ?_
  rintro e w2 ⟨A2, c2, rfl, ho, hr3, hch2⟩
  have hch : Chg w.heap.size w w2 := HCH0.out.trans hch2
  have HE : Ext w w2 := Ext.chg (Ext.rfl_ w) hch (Nat.le_refl _)
  have hs1 : w.heap.size ≤ w1.heap.size := HCH0.out.size
  have hg2 : w2.heap[g]? = some (.cells #[.slice (some ⟨b, o, none⟩) m c] 123 (0, 0)) := hch.blkV HG.out (by omega)
  have HG2 := Lib.hid hg2
  obtain ⟨b3, o3, m3, d3, hc3, hf3, hd3, hnc3, hn3, hg3, hty3⟩ := hr3.cellsT
  have hcg2 : w2.cell? ⟨g, 0, none⟩ = some (.slice (some ⟨b, o, none⟩) m c) := by simp [World.cell?, hg2]
  have hfg2 : w2.frozen? ⟨g, 0, none⟩ = false := by simp [World.frozen?, hg2]
  have HO := Lib.hid ho
  have HD3 := Lib.hid hd3
  have HT3 := Lib.hid hty3
  have HN3 := Lib.hid hn3
  clear ho hr3 hd3 hty3 hn3 hg3 hch2 hg2 hch
  go_wp2
  go_ret2
  refine ⟨A2, c2, _, rfl, hs1, ?_, Rdr.set HG2.out HD3.out HT3.out hnc3 HN3.out, (Chg.of_ext HE).setCell 0 _⟩
  exact OwnT.chgN HO.out HG2.out (by decide) one_noV (OwnT.ne HO.out HG2.out (by decide)) ((Chg.rfl_ _ _).setCell 0 _)

set_option maxRecDepth 100000 in
set_option maxHeartbeats 1000000 in
theorem takeT_any (g gn ge go gb : Nat) (ts : List Tab) (r : Bs) (w : World) (hm : ∀ t ∈ ts, placeT t = true) (hx : Rdr w g (addB ts ++ r)) (hb : BxE w g gn ge go gb) (hn : ts.length ≤ 4096) :
    Calls Tryz.prog 64 #[.pointer (some ⟨g, 0, none⟩), .int .i64 4096, .func (.func 65) #[] #[.pointer (some ⟨gn, 0, none⟩), .pointer (some ⟨ge, 0, none⟩), .pointer (some ⟨go, 0, none⟩), .pointer (some ⟨gb, 0, none⟩)]] w fun e w' => ∃ A c b0, e = .returned (.tuple #[.slice A ts.length c, .int .i64 0]) ∧
      w.heap.size ≤ b0 ∧ OwnT w' b0 (.slice A ts.length c) ts ∧ Rdr w' g r ∧ Chg g w w' := by
  have HX := Lib.hid hx
  have HM := Lib.hid hm
  have HBX := Lib.hid hb
  have hgl := hx.lt
  have hnil := fun (w : World) (f : Fn) (x y : Array Value) => run_eql_func_nil (P := Tryz.prog) w 108 f x y Tryz.underlying108
  have HB := Lib.hid (blk1 w (.cells #[.func (.func 65) #[] #[.pointer (some ⟨gn, 0, none⟩), .pointer (some ⟨ge, 0, none⟩), .pointer (some ⟨go, 0, none⟩), .pointer (some ⟨gb, 0, none⟩)]] 108))
  clear hx hm hb
  go_enter Tryz.func64, Tryz.ntmps64
  go_wp2_with fail
  refine (tryT_any g w.heap.size gn ge go gb ts r _ HM.out (HX.out.ext (by with_reducible (repeat (first | exact Ext.rfl_ _ | assumption | refine Ext.drew ?_ | refine Ext.drewN ?_ _ | refine Ext.alloc ?_ _ | refine Ext.trans ?_ (by assumption))))) (HBX.out.ext (by with_reducible (repeat (first | exact Ext.rfl_ _ | assumption | refine Ext.drew ?_ | refine Ext.drewN ?_ _ | refine Ext.alloc ?_ _ | refine Ext.trans ?_ (by assumption))))) HB.out (by omega) hn).mono ?_
  rintro e w1 ⟨A1, c1, b0, rfl, hb0, ho, hr1, hch1⟩
  have HO := Lib.hid ho
  have HR1 := Lib.hid hr1
  have HC1 := Lib.hid ((Chg.of_ext (Ext.alloc (Ext.rfl_ w) (.cells #[.func (.func 65) #[] #[.pointer (some ⟨gn, 0, none⟩), .pointer (some ⟨ge, 0, none⟩), .pointer (some ⟨go, 0, none⟩), .pointer (some ⟨gb, 0, none⟩)]] 108))).trans hch1)
  clear ho hr1 hch1
  go_wp2
  go_ret2
  exact ⟨A1, c1, b0, rfl, by simp at hb0; omega, HO.out, HR1.out, HC1.out⟩

/-! ### no numbers -/
theorem take1I_none (g z : Nat) (w : World) :
    Calls Tryz.prog 88 #[.pointer (some ⟨g, 0, none⟩), .int .i64 0, .pointer (some ⟨z, 0, none⟩)] w fun e w' => e = .returned (.tuple #[.slice none 0 0, .int .i64 0]) ∧ w' = w := by
  go_enter Tryz.func88, Tryz.ntmps88
  go_wp2
  go_loopw [5, 6] (fun v ev wr => v = .slice none 0 0 ∧ ev = .int .i64 0 ∧ wr = w) (fun _ _ _ => 0)
  case atStart => exact ⟨rfl, rfl, rfl⟩
  case round =>
    obtain ⟨rfl, rfl, rfl⟩ := hrel
    go_wp2
    go_ret2
    exact ⟨rfl, rfl⟩

set_option maxRecDepth 100000 in
set_option maxHeartbeats 4000000 in
theorem tryI_none (g z : Nat) (r : Bs) (w : World) (hx : Rdr w g (numB 0 ++ r)) :
    Calls Tryz.prog 87 #[.pointer (some ⟨g, 0, none⟩), .int .i64 4096, .func (.func 88) #[] #[.pointer (some ⟨z, 0, none⟩)]] w fun e w' => e = .returned (.tuple #[.slice none 0 0, .int .i64 0]) ∧ Rdr w' g r ∧ Chg g w w' := by
  have HX := Lib.hid hx
  obtain ⟨b, o, m, c, hc, hf, hr, hnc, hn4, hg, hty⟩ := hx.cellsT
  have hlt := hx.lt
  have HG := Lib.hid hg
  have HR0 := Lib.hid (show Rdr (w.alloc (.cells #[.slice (some ⟨b, o, none⟩) m c] 123)) w.heap.size (numB 0 ++ r) from ⟨b, o, m, c, heap_alloc_new w _, ⟨hr.ext (by with_reducible (repeat (first | exact Ext.rfl_ _ | assumption | refine Ext.drew ?_ | refine Ext.drewN ?_ _ | refine Ext.alloc ?_ _ | refine Ext.trans ?_ (by assumption)))), hty.ext (by with_reducible (repeat (first | exact Ext.rfl_ _ | assumption | refine Ext.drew ?_ | refine Ext.drewN ?_ _ | refine Ext.alloc ?_ _ | refine Ext.trans ?_ (by assumption))))⟩, hnc, hn4⟩)
  have HN := Lib.hid (show getN (numB 0 ++ r) = some (0, r) from getN_numB (by omega))
  clear hr hg hn4 hx hty
  go_enter Tryz.func87, Tryz.ntmps87
  go_wp2_with (go_at_call 93; refine (closed_any g _ _ HX.out).mono ?_; rintro e w' ⟨rfl, rfl⟩)
  refine (rnum_ok w.heap.size _ _ 0 _ HR0.out HN.out).mono ?_
  rintro e w1 ⟨rfl, hr1, hch1⟩
  have hch : Chg w.heap.size w w1 := (Chg.of_ext (Ext.alloc (Ext.rfl_ w) _)).trans hch1
  have HE : Ext w w1 := Ext.chg (Ext.rfl_ w) hch (Nat.le_refl _)
  have hg2 : w1.heap[g]? = some (.cells #[.slice (some ⟨b, o, none⟩) m c] 123 (0, 0)) := hch.blkV HG.out (by omega)
  have HG2 := Lib.hid hg2
  obtain ⟨b3, o3, m3, d3, hc3, hf3, hd3, hnc3, hn3, hg3, hty3⟩ := hr1.cellsT
  have hcg2 : w1.cell? ⟨g, 0, none⟩ = some (.slice (some ⟨b, o, none⟩) m c) := by simp [World.cell?, hg2]
  have hfg2 : w1.frozen? ⟨g, 0, none⟩ = false := by simp [World.frozen?, hg2]
  have HD3 := Lib.hid hd3
  have HT3 := Lib.hid hty3
  have HN3 := Lib.hid hn3
  clear hr1 hd3 hty3 hn3 hg3 hch1 hg2 hch
  go_wp2_with fail
  refine (take1I_none w.heap.size z _).mono ?_
  rintro e w2 ⟨rfl, rfl⟩
  go_wp2
  go_ret2
  exact ⟨rfl, Rdr.set HG2.out HD3.out HT3.out hnc3 HN3.out, (Chg.of_ext HE).setCell 0 _⟩

set_option maxRecDepth 100000 in
set_option maxHeartbeats 1000000 in
theorem takeI_none (g : Nat) (r : Bs) (w : World) (hx : Rdr w g (numB 0 ++ r)) :
    Calls Tryz.prog 63 #[.pointer (some ⟨g, 0, none⟩), .int .i64 4096, .func (.func 62) #[] #[]] w fun e w' => e = .returned (.tuple #[.slice none 0 0, .int .i64 0]) ∧ Rdr w' g r ∧ Chg g w w' := by
  have HX := Lib.hid hx
  have hgl := hx.lt
  have hnil := fun (w : World) (f : Fn) (x y : Array Value) => run_eql_func_nil (P := Tryz.prog) w 101 f x y Tryz.underlying101
  clear hx
  go_enter Tryz.func63, Tryz.ntmps63
  go_wp2_with fail
  refine (tryI_none g w.heap.size r _ (HX.out.ext (by with_reducible (repeat (first | exact Ext.rfl_ _ | assumption | refine Ext.drew ?_ | refine Ext.drewN ?_ _ | refine Ext.alloc ?_ _ | refine Ext.trans ?_ (by assumption)))))).mono ?_
  rintro e w1 ⟨rfl, hr1, hch1⟩
  have HR1 := Lib.hid hr1
  have HC1 := Lib.hid ((Chg.of_ext (Ext.alloc (Ext.rfl_ w) (.cells #[.func (.func 62) #[] #[]] 101))).trans hch1)
  clear hr1 hch1
  go_wp2
  go_ret2
  exact ⟨rfl, HR1.out, HC1.out⟩


open Go.RowKit

theorem BxE.setN {w : World} {g gn ge go gb z : Nat} (h : BxE w g gn ge go gb) (hz : gn ≠ z ∧ ge ≠ z ∧ go ≠ z ∧ gb ≠ z) (o : Nat) (u : Value) : BxE (w.setCell ⟨z, o, none⟩ u) g gn ge go gb := by
  have k : ∀ y ob, y ≠ z → w.heap[y]? = some ob → (w.setCell ⟨z, o, none⟩ u).heap[y]? = some ob := fun y ob h1 h2 => (Below.heap_setCell _ _ _ _ (by simpa using h1)).trans h2
  exact ⟨k _ _ hz.1 h.bn, k _ _ hz.2.1 h.be, k _ _ hz.2.2.1 h.bo, k _ _ hz.2.2.2 h.bb, h.ne⟩

/-- Six stores in another block: what is read here stays. -/
theorem cell_set6 {W : World} {z b o : Nat} {v : Value} (u0 u1 u2 u3 u4 u5 : Value) (h : W.cell? ⟨b, o, none⟩ = some v) (hz : b ≠ z) :
    ((((((W.setCell ⟨z, 0, none⟩ u0).setCell ⟨z, 1, none⟩ u1).setCell ⟨z, 2, none⟩ u2).setCell ⟨z, 3, none⟩ u3).setCell ⟨z, 4, none⟩ u4).setCell ⟨z, 5, none⟩ u5).cell? ⟨b, o, none⟩ = some v := by
  unfold World.cell? at *
  simp only [Below.heap_setCell _ _ _ _ (show b ≠ (⟨z, _, none⟩ : Addr).block from hz)]
  exact h

/-- Where the reading of an edit stands. -/
structure StX (w : World) (p g : Nat) (av : Value) (ts : List Tab) (a b c d : Int) (x : Bs) (W : World) : Prop where
  b0 : W.heap[w.heap.size]? = some (.cells #[.slice none 0 0, .slice none 0 0, .int .i64 0, .int .i64 0, .int .i64 0, .int .i64 0] 28 (0, 0))
  b1 : W.heap[p]? = some (.cells #[.slice none 0 0, av, .int .i64 a, .int .i64 b, .int .i64 c, .int .i64 d] 28 (0, 0))
  bx : BxE W g (p + 1 + 1 + 1) (p + 1 + 1 + 1 + 1) (p + 1 + 1) (p + 1)
  lt : w.heap.size < g ∧ g < p
  rd : Rdr W g x
  xt : Ext w W
  ot : ∃ B n m b0, av = .slice B n m ∧ OwnT W b0 av ts

theorem noX {av : Value} {a b c d : Int} (h : ∃ B n m, av = .slice B n m) : ∀ (i : Nat) (k : Int), (#[Value.slice none 0 0, av, .int .i64 a, .int .i64 b, .int .i64 c, .int .i64 d] : Array Value)[i]? ≠ some (Value.int .u8 k) := by
  obtain ⟨B, n, m, rfl⟩ := h
  intro i k
  match i with
  | 0 => simp
  | 1 => simp
  | 2 => simp
  | 3 => simp
  | 4 => simp
  | 5 => simp
  | n + 6 => simp
section
variable {w W : World} {p g : Nat} {av : Value} {ts : List Tab} {a b c d : Int} {x : Bs}
theorem StX.no (h : StX w p g av ts a b c d x W) : ∀ (i : Nat) (k : Int), (#[Value.slice none 0 0, av, .int .i64 a, .int .i64 b, .int .i64 c, .int .i64 d] : Array Value)[i]? ≠ some (Value.int .u8 k) :=
  noX (by obtain ⟨B, n, m, _, e, _⟩ := h.ot; exact ⟨B, n, m, e⟩)
theorem StX.chg (h : StX w p g av ts a b c d x W) {W' : World} {x' : Bs} (hr : Rdr W' g x') (hc : Chg g W W') : StX w p g av ts a b c d x' W' := by
  have lt := h.lt
  obtain ⟨B, n, m, b0, e, ho⟩ := h.ot
  exact ⟨hc.blkV h.b0 (by omega), hc.blkV h.b1 (by omega), h.bx.chg hc, lt, hr, h.xt.chg hc (by omega), B, n, m, b0, e, ho.chgR h.rd hc⟩
theorem StX.ext (h : StX w p g av ts a b c d x W) {W' : World} (hx : Ext W W') : StX w p g av ts a b c d x W' := h.chg (h.rd.ext hx) (Chg.of_ext hx)
theorem StX.put (h : StX w p g av ts a b c d x W) (o : Nat) (u : Value) {av' : Value} {ts' : List Tab} {a' b' c' d' : Int} (he : (#[Value.slice none 0 0, av, .int .i64 a, .int .i64 b, .int .i64 c, .int .i64 d] : Array Value).setIfInBounds o u = #[.slice none 0 0, av', .int .i64 a', .int .i64 b', .int .i64 c', .int .i64 d'])
    (ho : ∃ B n m b0, av' = .slice B n m ∧ OwnT W b0 av' ts') : StX w p g av' ts' a' b' c' d' x (W.setCell ⟨p, o, none⟩ u) := by
  have lt := h.lt
  have hc : Chg p W (W.setCell ⟨p, o, none⟩ u) := (Chg.rfl_ _ W).setCell o u
  obtain ⟨B, n, m, b0, e, ho⟩ := ho
  refine ⟨(Below.heap_setCell _ _ _ _ (by simp; omega)).trans h.b0, ?_, h.bx.setN (by omega) o u, lt, h.rd.chgN h.b1 (by decide) h.no (by omega) hc, h.xt.setCell (by simp; omega) u, B, n, m, b0, e, ho.chgN h.b1 (by decide) h.no (ho.ne h.b1 (by decide)) hc⟩
  rw [← he]
  exact heap_set _ _ _ _ _ _ h.b1
theorem StX.tg (h : StX w p g av ts a b c d x W) (o : Nat) (ho : o < 6) : TgO W p o := tgO_of h.b1 (by simpa using ho) (by decide) h.no
end

set_option maxRecDepth 100000 in
set_option maxHeartbeats 8000000 in
theorem eread_any (A : Option Addr) (n c : Nat) (x : Ver) (w : World) (hm : MayT x) (hn : x.ts.length ≤ 100) (hb : Rd w A n (payE x)) :
    Calls Tryz.prog 37 #[.slice A n c] w fun e w' => ∃ B d, e = .returned (.tuple #[edV B x.ts.length d x, .bool true]) ∧ RdLT w' B x.ts.length x.ts ∧ x.ts.length ≤ d ∧ Ext w w' := by
  have HPB := Lib.hid hb
  have HM := Lib.hid hm
  have hpl := pay_len hm hn
  have hnl : n ≤ B40 := by rw [← hb.1]; unfold B40; omega
  obtain ⟨h1, h2, h3, h4, _⟩ := hm.1
  have r1 := numT_iff.1 h1
  have r2 := numT_iff.1 h2
  have r3 := numT_iff.1 h3
  have r4 := numT_iff.1 h4
  have HP := Lib.hid (show ∀ t ∈ x.ts, placeT t = true from fun t ht => may_place hm ht)
  have H0 := Lib.hid (blk1 w (.cells #[.slice none 0 0, .slice none 0 0, .int .i64 0, .int .i64 0, .int .i64 0, .int .i64 0] 28))
  clear hb hm h1 h2 h3 h4 hpl
  go_enter Tryz.func37, Tryz.ntmps37
  go_wp2_with fail
  refine (open_any A n c (payE x) _ (HPB.out.ext (by with_reducible (repeat (first | exact Ext.rfl_ _ | assumption | refine Ext.drew ?_ | refine Ext.drewN ?_ _ | refine Ext.alloc ?_ _ | refine Ext.trans ?_ (by assumption))))) hnl).mono ?_
  rintro e w1 ⟨g, rfl, hg1, hr1, hw1⟩
  rw [World.size_alloc] at hg1
  have hgl := hr1.lt
  obtain ⟨wB, hwB⟩ : ∃ W, W = (((((w1.alloc (.cells #[.slice none 0 0, .slice none 0 0, .int .i64 0, .int .i64 0, .int .i64 0, .int .i64 0] 28)).alloc (.cells #[.bool false] 4)).alloc (.cells #[.func (.func 60) #[] #[.pointer (some ⟨w1.heap.size + 1, 0, none⟩)]] 97)).alloc (.cells #[.func (.func 61) #[] #[.pointer (some ⟨w1.heap.size + 1 + 1, 0, none⟩)]] 102)).alloc (.cells #[.int .i64 0] 29)) := ⟨_, rfl⟩
  have hp' : ∀ (w : World) (o : Obj), (w.alloc o).heap = w.heap.push o := fun _ _ => rfl
  have xB : Ext w1 wB := by rw [hwB]; exact (((((Ext.rfl_ w1).alloc _).alloc _).alloc _).alloc _).alloc _
  have HS0 : Hid (StX w w1.heap.size g (.slice none 0 0) [] 0 0 0 0 (numB 0 ++ (addB x.ts ++ (numB x.next.toNat ++ (numB x.log.toNat ++ (numB x.index.toNat ++ numB x.seq.toNat))))) wB) := by
    have k0 : wB.heap[w.heap.size]? = _ := ((Ext.below xB).block _ (Array.getElem?_eq_some_iff.1 (((Ext.below hw1).block _ (Array.getElem?_eq_some_iff.1 H0.out).1).trans H0.out)).1).trans (((Ext.below hw1).block _ (Array.getElem?_eq_some_iff.1 H0.out).1).trans H0.out)
    have k1 : wB.heap[w1.heap.size]? = some (.cells #[.slice none 0 0, .slice none 0 0, .int .i64 0, .int .i64 0, .int .i64 0, .int .i64 0] 28 (0, 0)) ∧ wB.heap[w1.heap.size + 1]? = some (.cells #[.bool false] 4 (0, 0)) ∧ wB.heap[w1.heap.size + 1 + 1]? = some (.cells #[.func (.func 60) #[] #[.pointer (some ⟨w1.heap.size + 1, 0, none⟩)]] 97 (0, 0)) ∧
        wB.heap[w1.heap.size + 1 + 1 + 1]? = some (.cells #[.func (.func 61) #[] #[.pointer (some ⟨w1.heap.size + 1 + 1, 0, none⟩)]] 102 (0, 0)) ∧ wB.heap[w1.heap.size + 1 + 1 + 1 + 1]? = some (.cells #[.int .i64 0] 29 (0, 0)) := by
      subst hwB
      simp only [hp', Array.getElem?_push, Array.size_push]
      refine ⟨?_, ?_, ?_, ?_, ?_⟩ <;> (repeat (first | rfl | rw [if_neg (by omega)]))
    exact Lib.hid ⟨k0, k1.1, ⟨k1.2.2.2.1, k1.2.2.2.2, k1.2.2.1, k1.2.1, by omega⟩, by omega, hr1.ext xB, (Ext.alloc (Ext.rfl_ w) _).trans (hw1.trans xB), none, 0, 0, 0, rfl, OwnT.nil _ _⟩
  go_wp2_with fail
  rw [← hwB]
  clear hr1 hw1 xB hp'
  clear hwB
  refine (takeI_none g _ wB HS0.out.rd).mono ?_
  rintro e w2 ⟨rfl, hr2, hc2⟩
  have HS2 := Lib.hid (HS0.out.chg hr2 hc2)
  obtain ⟨⟨c0, c1, c2, c3, c4, c5⟩, d0, d1, d2, d3, d4, d5⟩ := box6f HS2.out.b1
  obtain ⟨⟨e0, e1, e2, e3⟩, g1, g2⟩ := HS2.out.bx.cells
  have s1 := setCell_self c0
  have s2 := setCell_self e1
  clear hr2 hc2
  go_wp2_with fail
  refine (eok_any _ _ e3 g2).mono ?_
  rintro e w' ⟨rfl, rfl⟩
  go_wp2_with fail
  refine (takeT_any g _ _ _ _ x.ts _ _ HP.out HS2.out.rd HS2.out.bx (by omega)).mono ?_
  rintro e w3 ⟨A3, m3, b3, rfl, _, ho3, hr3, hc3⟩
  have hS3 := HS2.out.chg hr3 hc3
  clear c0 c1 c2 c3 c4 c5 d0 d1 d2 d3 d4 d5 e0 e1 e2 e3 g1 g2 s1 s2
  have HS3 := Lib.hid (hS3.put 1 (.slice A3 x.ts.length m3) (av' := .slice A3 x.ts.length m3) (ts' := x.ts) (a' := 0) (b' := 0) (c' := 0) (d' := 0) rfl ⟨A3, _, m3, b3, rfl, ho3⟩)
  obtain ⟨⟨c0, c1, c2, c3, c4, c5⟩, d0, d1, d2, d3, d4, d5⟩ := box6f hS3.b1
  obtain ⟨⟨e0, e1, e2, e3⟩, g1, g2⟩ := HS3.out.bx.cells
  have s2 := setCell_self e1
  clear hr3 hc3 ho3 hS3
  go_wp2_with fail
  refine (eok_any _ _ e3 g2).mono ?_
  rintro e w' ⟨rfl, rfl⟩
  clear c0 c1 c2 c3 c4 c5 d0 d1 d2 d3 d4 d5 e1 e2 e3 g1 g2 s2
  obtain ⟨W3, hW3⟩ : ∃ W, W = w3.setCell ⟨w1.heap.size, 1, none⟩ (.slice A3 x.ts.length m3) := ⟨_, rfl⟩
  have hsz : W3.heap.size = w3.heap.size := by rw [hW3]; simp [World.setCell]
  rw [← hW3] at HS3
  obtain ⟨W4, hW4⟩ : ∃ W, W = W3.alloc (.cells #[.pointer (some ⟨w1.heap.size, 2, none⟩), .pointer (some ⟨w1.heap.size, 3, none⟩), .pointer (some ⟨w1.heap.size, 4, none⟩), .pointer (some ⟨w1.heap.size, 5, none⟩)] 99) := ⟨_, rfl⟩
  have HS4 := Lib.hid (show StX w w1.heap.size g _ x.ts 0 0 0 0 _ W4 from by rw [hW4]; exact HS3.out.ext (Ext.alloc (Ext.rfl_ _) _))
  have HP4 := Lib.hid (show W4.heap[W3.heap.size]? = some (.cells #[.pointer (some ⟨w1.heap.size, 2, none⟩), .pointer (some ⟨w1.heap.size, 3, none⟩), .pointer (some ⟨w1.heap.size, 4, none⟩), .pointer (some ⟨w1.heap.size, 5, none⟩)] 99 (0, 0)) from by rw [hW4]; exact heap_alloc_new _ _)
  have zq : w1.heap.size + 1 + 1 + 1 + 1 < W3.heap.size := HS3.out.bx.lt.2.1
  rw [hsz] at HP4 zq
  have ltq := HS3.out.lt
  go_wp2_with fail
  rw [← hW3, ← hW4]
  refine (enums_any g _ _ w3.heap.size [(w1.heap.size, 2, x.next.toNat), (w1.heap.size, 3, x.log.toNat), (w1.heap.size, 4, x.index.toNat), (w1.heap.size, 5, x.seq.toNat)] [] W4 (by have := HS4.out.rd; simpa [numsB] using this) ?_ HS4.out.bx.bo HS4.out.bx.bb HP4.out ?_ ?_ ?_ (by simp)).mono ?_
  · intro z hz
    simp at hz
    rcases hz with rfl | rfl | rfl | rfl <;> simp <;> omega
  · intro z hz
    simp at hz
    rcases hz with rfl | rfl | rfl | rfl
    · exact HS4.out.tg 2 (by omega)
    · exact HS4.out.tg 3 (by omega)
    · exact HS4.out.tg 4 (by omega)
    · exact HS4.out.tg 5 (by omega)
  · exact ⟨by omega, by omega, by omega⟩
  · intro z hz
    simp at hz
    rcases hz with rfl | rfl | rfl | rfl <;> simp <;> omega
  rintro e w5 ⟨rfl, hr5, hc5⟩
  have HS5 : Hid (StX w w1.heap.size g (.slice A3 x.ts.length m3) x.ts x.next x.log x.index x.seq [] w5) := by
    have z1 : (x.next.toNat : Int) = x.next := Int.toNat_of_nonneg (by omega)
    have z2 : (x.log.toNat : Int) = x.log := Int.toNat_of_nonneg (by omega)
    have z3 : (x.index.toNat : Int) = x.index := Int.toNat_of_nonneg (by omega)
    have z4 : (x.seq.toNat : Int) = x.seq := Int.toNat_of_nonneg (by omega)
    have e : setsQ W4 [(w1.heap.size, 2, x.next.toNat), (w1.heap.size, 3, x.log.toNat), (w1.heap.size, 4, x.index.toNat), (w1.heap.size, 5, x.seq.toNat)] = (((W4.setCell ⟨w1.heap.size, 2, none⟩ (.int .i64 x.next)).setCell ⟨w1.heap.size, 3, none⟩ (.int .i64 x.log)).setCell ⟨w1.heap.size, 4, none⟩ (.int .i64 x.index)).setCell ⟨w1.heap.size, 5, none⟩ (.int .i64 x.seq) := by
      show (((W4.setCell ⟨w1.heap.size, 2, none⟩ (.int .i64 (x.next.toNat : Int))).setCell ⟨w1.heap.size, 3, none⟩ (.int .i64 (x.log.toNat : Int))).setCell ⟨w1.heap.size, 4, none⟩ (.int .i64 (x.index.toNat : Int))).setCell ⟨w1.heap.size, 5, none⟩ (.int .i64 (x.seq.toNat : Int)) = _
      rw [z1, z2, z3, z4]
    rw [e] at hc5
    have a1 := HS4.out.put 2 (.int .i64 x.next) (av' := .slice A3 x.ts.length m3) (a' := x.next) (b' := 0) (c' := 0) (d' := 0) rfl HS4.out.ot
    have a2 := a1.put 3 (.int .i64 x.log) (av' := .slice A3 x.ts.length m3) (a' := x.next) (b' := x.log) (c' := 0) (d' := 0) rfl a1.ot
    have a3 := a2.put 4 (.int .i64 x.index) (av' := .slice A3 x.ts.length m3) (a' := x.next) (b' := x.log) (c' := x.index) (d' := 0) rfl a2.ot
    have a4 := a3.put 5 (.int .i64 x.seq) (av' := .slice A3 x.ts.length m3) (a' := x.next) (b' := x.log) (c' := x.index) (d' := x.seq) rfl a3.ot
    exact Lib.hid (a4.chg hr5 hc5)
  clear hr5 hc5 e0
  have HC5 := Lib.hid (show ∀ W, Ext w5 W → StX w w1.heap.size g (.slice A3 x.ts.length m3) x.ts x.next x.log x.index x.seq [] W from fun W hW => HS5.out.ext hW)
  go_wp2
  refine wp_region_held_drew (S := (fun W => W.cell? ⟨w1.heap.size + 1 + 1, 0, none⟩ = some (.func (.func 60) #[] #[.pointer (some ⟨w1.heap.size + 1, 0, none⟩)]))) (by kernel_rfl) (by (try dsimp only); exact (HC5.out _ (by with_reducible (repeat (first | exact Ext.rfl_ _ | assumption | refine Ext.drew ?_ | refine Ext.drewN ?_ _ | refine Ext.alloc ?_ _ | refine Ext.trans ?_ (by assumption))))).bx.cells.1.2.2.1) (fun hHeld => ?_)
  refine wpAnyH_take (i := 0) (oi := ({ dst := some 41, op := .load 97 (.tmp 7), type := 97, pos := "edit.go:155", after := #[], guard := none } : Go.Oper)) (v := ?v1) rfl (by kernel_rfl) (by kernel_rfl) (by kernel_rfl) (fun _ _ _ h => h) (Or.inl ⟨by rfl, ?hy1⟩) (by assumption) ?rest1
  case hy1 => (intro w hSw; (try dsimp only at hSw); go_simp; (try with_reducible rfl))
  (try simp only [Act.put, List.getElem_toArray, List.getElem_cons_zero, List.getElem_cons_succ, List.setIfInBounds_toArray, List.set_cons_zero, List.set_cons_succ])
  refine wpAnyH_take (i := 1) (oi := ({ dst := some 42, op := .move (.tmp 4), type := 95, pos := "edit.go:155", after := #[], guard := none } : Go.Oper)) (v := ?v2) rfl (by kernel_rfl) (by kernel_rfl) (by kernel_rfl) (fun _ _ _ h => h) (Or.inl ⟨by rfl, ?hy2⟩) (by assumption) ?rest2
  case hy2 => (intro w hSw; (try dsimp only at hSw); go_simp; (try with_reducible rfl))
  (try simp only [Act.put, List.getElem_toArray, List.getElem_cons_zero, List.getElem_cons_succ, List.setIfInBounds_toArray, List.set_cons_zero, List.set_cons_succ])
  refine wpAnyH_ready (rs := [2]) (by kernel_rfl) (by simp) ?_
  refine AllReadyH.cons (o := ({ dst := some 43, op := .call { callee := .value (.func 67), args := #[.tmp 42], argTypes := #[95] }, type := 29, pos := "edit.go:155", after := #[⟨1, .data⟩], guard := none } : Go.Oper)) rfl (fun K hK => ?_) AllReadyH.nil
  go_simp
  refine (rend_any g [] _ (HC5.out _ (by with_reducible (repeat (first | exact Ext.rfl_ _ | assumption | refine Ext.drew ?_ | refine Ext.drewN ?_ _ | refine Ext.alloc ?_ _ | refine Ext.trans ?_ (by assumption))))).rd).mono ?_; rintro e w' ⟨rfl, rfl⟩; rw [if_pos rfl]
  (try (go_wp2_with fail))
  refine hK.out _ _ (by (try dsimp only); exact (HC5.out _ (by with_reducible (repeat (first | exact Ext.rfl_ _ | assumption | refine Ext.drew ?_ | refine Ext.drewN ?_ _ | refine Ext.alloc ?_ _ | refine Ext.trans ?_ (by assumption))))).bx.cells.1.2.2.1) (fun hHeld => ?_)
  clear hK K
  (try simp only [Act.put, List.getElem_toArray, List.getElem_cons_zero, List.getElem_cons_succ, List.setIfInBounds_toArray, List.set_cons_zero, List.set_cons_succ])
  refine wpAnyH_ready (rs := [3]) (by kernel_rfl) (by simp) ?_
  refine AllReadyH.cons (o := ({ dst := some 44, op := .call { callee := .value (.tmp 41), args := #[.tmp 43], argTypes := #[29] }, type := 0, pos := "edit.go:155", after := #[⟨0, .data⟩, ⟨2, .data⟩, ⟨2, .chain⟩], guard := none } : Go.Oper)) rfl (fun K hK => ?_) AllReadyH.nil
  go_simp
  refine (eok_any (w1.heap.size + 1) _ (HC5.out _ (by with_reducible (repeat (first | exact Ext.rfl_ _ | assumption | refine Ext.drew ?_ | refine Ext.drewN ?_ _ | refine Ext.alloc ?_ _ | refine Ext.trans ?_ (by assumption))))).bx.cells.1.2.2.2 (HC5.out _ (by with_reducible (repeat (first | exact Ext.rfl_ _ | assumption | refine Ext.drew ?_ | refine Ext.drewN ?_ _ | refine Ext.alloc ?_ _ | refine Ext.trans ?_ (by assumption))))).bx.cells.2.2).mono ?_; rintro e w' ⟨rfl, rfl⟩
  (try (go_wp2_with fail))
  refine hK.out _ _ (by (try dsimp only); exact (HC5.out _ (by with_reducible (repeat (first | exact Ext.rfl_ _ | assumption | refine Ext.drew ?_ | refine Ext.drewN ?_ _ | refine Ext.alloc ?_ _ | refine Ext.trans ?_ (by assumption))))).bx.cells.1.2.2.1) (fun hHeld => ?_)
  clear hK K
  (try simp only [Act.put, List.getElem_toArray, List.getElem_cons_zero, List.getElem_cons_succ, List.setIfInBounds_toArray, List.set_cons_zero, List.set_cons_succ])
  refine wpAnyH_done (by kernel_rfl) ?_ _
  all_goals
    have hnx : (1 : Int) ≤ x.next := r1.1
    have HKK := Lib.hid (show ∀ W, Ext w5 W → (W.cell? ⟨w1.heap.size, 0, none⟩ = some (.slice none 0 0) ∧ W.cell? ⟨w1.heap.size, 1, none⟩ = some (.slice A3 x.ts.length m3) ∧ W.cell? ⟨w1.heap.size, 2, none⟩ = some (.int .i64 x.next) ∧ W.cell? ⟨w1.heap.size, 3, none⟩ = some (.int .i64 x.log) ∧ W.cell? ⟨w1.heap.size, 4, none⟩ = some (.int .i64 x.index) ∧ W.cell? ⟨w1.heap.size, 5, none⟩ = some (.int .i64 x.seq) ∧ W.cell? ⟨w1.heap.size + 1, 0, none⟩ = some (.bool false)) from fun W hW => by
      have hS := HC5.out W hW
      obtain ⟨⟨a0, a1, a2, a3, a4, a5⟩, _⟩ := box6f hS.b1
      exact ⟨a0, a1, a2, a3, a4, a5, hS.bx.cells.1.2.2.2⟩)
    obtain ⟨⟨i0, i1, i2, i3, i4, i5⟩, j0, j1, j2, j3, j4, j5⟩ := box6f (HC5.out w5 (Ext.rfl_ _)).b0
    have hne0 : w1.heap.size ≠ w.heap.size := by have := HS5.out.lt; omega
    have hne1 : w1.heap.size + 1 ≠ w.heap.size := by have := HS5.out.lt; omega
    have HK5 := Lib.hid (HKK.out w5 (Ext.rfl_ _))
    have HK6 := Lib.hid (show ((((((w5.setCell ⟨w.heap.size, 0, none⟩ (.slice none 0 0)).setCell ⟨w.heap.size, 1, none⟩ (.slice A3 x.ts.length m3)).setCell ⟨w.heap.size, 2, none⟩ (.int .i64 x.next)).setCell ⟨w.heap.size, 3, none⟩ (.int .i64 x.log)).setCell ⟨w.heap.size, 4, none⟩ (.int .i64 x.index)).setCell ⟨w.heap.size, 5, none⟩ (.int .i64 x.seq)).cell? ⟨w1.heap.size, 0, none⟩ = some (.slice none 0 0) ∧ ((((((w5.setCell ⟨w.heap.size, 0, none⟩ (.slice none 0 0)).setCell ⟨w.heap.size, 1, none⟩ (.slice A3 x.ts.length m3)).setCell ⟨w.heap.size, 2, none⟩ (.int .i64 x.next)).setCell ⟨w.heap.size, 3, none⟩ (.int .i64 x.log)).setCell ⟨w.heap.size, 4, none⟩ (.int .i64 x.index)).setCell ⟨w.heap.size, 5, none⟩ (.int .i64 x.seq)).cell? ⟨w1.heap.size, 1, none⟩ = some (.slice A3 x.ts.length m3) ∧ ((((((w5.setCell ⟨w.heap.size, 0, none⟩ (.slice none 0 0)).setCell ⟨w.heap.size, 1, none⟩ (.slice A3 x.ts.length m3)).setCell ⟨w.heap.size, 2, none⟩ (.int .i64 x.next)).setCell ⟨w.heap.size, 3, none⟩ (.int .i64 x.log)).setCell ⟨w.heap.size, 4, none⟩ (.int .i64 x.index)).setCell ⟨w.heap.size, 5, none⟩ (.int .i64 x.seq)).cell? ⟨w1.heap.size, 2, none⟩ = some (.int .i64 x.next) ∧ ((((((w5.setCell ⟨w.heap.size, 0, none⟩ (.slice none 0 0)).setCell ⟨w.heap.size, 1, none⟩ (.slice A3 x.ts.length m3)).setCell ⟨w.heap.size, 2, none⟩ (.int .i64 x.next)).setCell ⟨w.heap.size, 3, none⟩ (.int .i64 x.log)).setCell ⟨w.heap.size, 4, none⟩ (.int .i64 x.index)).setCell ⟨w.heap.size, 5, none⟩ (.int .i64 x.seq)).cell? ⟨w1.heap.size, 3, none⟩ = some (.int .i64 x.log) ∧ ((((((w5.setCell ⟨w.heap.size, 0, none⟩ (.slice none 0 0)).setCell ⟨w.heap.size, 1, none⟩ (.slice A3 x.ts.length m3)).setCell ⟨w.heap.size, 2, none⟩ (.int .i64 x.next)).setCell ⟨w.heap.size, 3, none⟩ (.int .i64 x.log)).setCell ⟨w.heap.size, 4, none⟩ (.int .i64 x.index)).setCell ⟨w.heap.size, 5, none⟩ (.int .i64 x.seq)).cell? ⟨w1.heap.size, 4, none⟩ = some (.int .i64 x.index) ∧ ((((((w5.setCell ⟨w.heap.size, 0, none⟩ (.slice none 0 0)).setCell ⟨w.heap.size, 1, none⟩ (.slice A3 x.ts.length m3)).setCell ⟨w.heap.size, 2, none⟩ (.int .i64 x.next)).setCell ⟨w.heap.size, 3, none⟩ (.int .i64 x.log)).setCell ⟨w.heap.size, 4, none⟩ (.int .i64 x.index)).setCell ⟨w.heap.size, 5, none⟩ (.int .i64 x.seq)).cell? ⟨w1.heap.size, 5, none⟩ = some (.int .i64 x.seq) ∧ ((((((w5.setCell ⟨w.heap.size, 0, none⟩ (.slice none 0 0)).setCell ⟨w.heap.size, 1, none⟩ (.slice A3 x.ts.length m3)).setCell ⟨w.heap.size, 2, none⟩ (.int .i64 x.next)).setCell ⟨w.heap.size, 3, none⟩ (.int .i64 x.log)).setCell ⟨w.heap.size, 4, none⟩ (.int .i64 x.index)).setCell ⟨w.heap.size, 5, none⟩ (.int .i64 x.seq)).cell? ⟨w1.heap.size + 1, 0, none⟩ = some (.bool false) from by
      obtain ⟨k0, k1, k2, k3, k4, k5, k6⟩ := HKK.out w5 (Ext.rfl_ _)
      exact ⟨cell_set6 _ _ _ _ _ _ k0 hne0, cell_set6 _ _ _ _ _ _ k1 hne0, cell_set6 _ _ _ _ _ _ k2 hne0, cell_set6 _ _ _ _ _ _ k3 hne0, cell_set6 _ _ _ _ _ _ k4 hne0, cell_set6 _ _ _ _ _ _ k5 hne0, cell_set6 _ _ _ _ _ _ k6 hne1⟩)
    go_wp2
    refine wp_region_held_drew (S := (fun W => W.cell? ⟨w1.heap.size, 0, none⟩ = some (.slice none 0 0) ∧ W.cell? ⟨w1.heap.size, 1, none⟩ = some (.slice A3 x.ts.length m3) ∧ W.cell? ⟨w1.heap.size, 2, none⟩ = some (.int .i64 x.next) ∧ W.cell? ⟨w1.heap.size, 3, none⟩ = some (.int .i64 x.log) ∧ W.cell? ⟨w1.heap.size, 4, none⟩ = some (.int .i64 x.index) ∧ W.cell? ⟨w1.heap.size, 5, none⟩ = some (.int .i64 x.seq) ∧ W.cell? ⟨w1.heap.size + 1, 0, none⟩ = some (.bool false))) (by kernel_rfl) (by (try dsimp only); simp only [World.cell?_drew, HK5.out.1, HK5.out.2.1, HK5.out.2.2.1, HK5.out.2.2.2.1, HK5.out.2.2.2.2.1, HK5.out.2.2.2.2.2.1, HK5.out.2.2.2.2.2.2, HK6.out.1, HK6.out.2.1, HK6.out.2.2.1, HK6.out.2.2.2.1, HK6.out.2.2.2.2.1, HK6.out.2.2.2.2.2.1, HK6.out.2.2.2.2.2.2, and_self]) (fun hHeld => ?_)
    refine wpAnyH_take (i := 0) (oi := ({ dst := some 45, op := .load 28 (.tmp 5), type := 28, pos := "edit.go:156", after := #[], guard := none } : Go.Oper)) (v := ?v3) rfl (by kernel_rfl) (by kernel_rfl) (by kernel_rfl) (fun _ _ _ h => h) (Or.inl ⟨by rfl, ?hy3⟩) (by assumption) ?rest3
    case hy3 => (intro w hSw; (try dsimp only at hSw); go_simp; (try with_reducible rfl))
    (try simp only [Act.put, List.getElem_toArray, List.getElem_cons_zero, List.getElem_cons_succ, List.setIfInBounds_toArray, List.set_cons_zero, List.set_cons_succ])
    refine wpAnyH_take (i := 1) (oi := ({ dst := some 46, op := .load 4 (.tmp 6), type := 4, pos := "edit.go:156", after := #[], guard := none } : Go.Oper)) (v := ?v4) rfl (by kernel_rfl) (by kernel_rfl) (by kernel_rfl) (fun _ _ _ h => h) (Or.inl ⟨by rfl, ?hy4⟩) (by assumption) ?rest4
    case hy4 => (intro w hSw; (try dsimp only at hSw); go_simp; (try with_reducible rfl))
    (try simp only [Act.put, List.getElem_toArray, List.getElem_cons_zero, List.getElem_cons_succ, List.setIfInBounds_toArray, List.set_cons_zero, List.set_cons_succ])
    refine wpAnyH_take (i := 2) (oi := ({ dst := some 47, op := .unOp .not 4 (.tmp 46), type := 4, pos := "edit.go:156", after := #[⟨1, .data⟩], guard := none } : Go.Oper)) (v := ?v5) rfl (by kernel_rfl) (by kernel_rfl) (by kernel_rfl) (fun _ _ _ h => h) (Or.inl ⟨by rfl, ?hy5⟩) (by assumption) ?rest5
    case hy5 => (intro w hSw; (try dsimp only at hSw); go_simp; (try with_reducible rfl))
    (try simp only [Act.put, List.getElem_toArray, List.getElem_cons_zero, List.getElem_cons_succ, List.setIfInBounds_toArray, List.set_cons_zero, List.set_cons_succ])
    refine wpAnyH_take (i := 3) (oi := ({ dst := some 48, op := .move (.tmp 47), type := 4, pos := "edit.go:156", after := #[⟨2, .data⟩], guard := none } : Go.Oper)) (v := ?v6) rfl (by kernel_rfl) (by kernel_rfl) (by kernel_rfl) (fun _ _ _ h => h) (Or.inl ⟨by rfl, ?hy6⟩) (by assumption) ?rest6
    case hy6 => (intro w hSw; (try dsimp only at hSw); go_simp; (try with_reducible rfl))
    (try simp only [Act.put, List.getElem_toArray, List.getElem_cons_zero, List.getElem_cons_succ, List.setIfInBounds_toArray, List.set_cons_zero, List.set_cons_succ])
    refine wpAnyH_take (i := 4) (oi := ({ dst := some 49, op := .fieldAddr 28 (.tmp 5) 2, type := 0, pos := "edit.go:156", after := #[⟨3, .guard⟩, ⟨8, .gcOnly .lateStores⟩], guard := some (3, true) } : Go.Oper)) (v := ?v7) rfl (by kernel_rfl) (by kernel_rfl) (by kernel_rfl) (fun _ _ _ h => h) (Or.inl ⟨by rfl, ?hy7⟩) (by assumption) ?rest7
    case hy7 => (intro w hSw; (try dsimp only at hSw); go_simp; (try with_reducible rfl))
    (try simp only [Act.put, List.getElem_toArray, List.getElem_cons_zero, List.getElem_cons_succ, List.setIfInBounds_toArray, List.set_cons_zero, List.set_cons_succ])
    refine wpAnyH_take (i := 5) (oi := ({ dst := some 50, op := .load 2 (.tmp 49), type := 2, pos := "edit.go:156", after := #[⟨4, .data⟩, ⟨3, .guard⟩, ⟨8, .gcOnly .lateStores⟩], guard := some (3, true) } : Go.Oper)) (v := ?v8) rfl (by kernel_rfl) (by kernel_rfl) (by kernel_rfl) (fun _ _ _ h => h) (Or.inl ⟨by rfl, ?hy8⟩) (by assumption) ?rest8
    case hy8 => (intro w hSw; (try dsimp only at hSw); go_simp; (try with_reducible rfl))
    (try simp only [Act.put, List.getElem_toArray, List.getElem_cons_zero, List.getElem_cons_succ, List.setIfInBounds_toArray, List.set_cons_zero, List.set_cons_succ])
    refine wpAnyH_take (i := 6) (oi := ({ dst := some 51, op := .binOp .geq 2 (.tmp 50) (.const (.int .i64 1)) 2, type := 4, pos := "edit.go:156", after := #[⟨5, .data⟩, ⟨3, .guard⟩, ⟨8, .gcOnly .lateStores⟩], guard := some (3, true) } : Go.Oper)) (v := ?v9) rfl (by kernel_rfl) (by kernel_rfl) (by kernel_rfl) (fun _ _ _ h => h) (Or.inl ⟨by rfl, ?hy9⟩) (by assumption) ?rest9
    case hy9 => (intro w hSw; (try dsimp only at hSw); go_simp; (try with_reducible rfl))
    (try simp only [Act.put, List.getElem_toArray, List.getElem_cons_zero, List.getElem_cons_succ, List.setIfInBounds_toArray, List.set_cons_zero, List.set_cons_succ])
    refine wpAnyH_take (i := 7) (oi := ({ dst := some 52, op := .pick (.tmp 48) (.tmp 51) (.const (.bool false)), type := 4, pos := "edit.go:156", after := #[⟨3, .data⟩, ⟨6, .data⟩, ⟨8, .gcOnly .lateStores⟩], guard := none } : Go.Oper)) (v := ?v10) rfl (by kernel_rfl) (by kernel_rfl) (by kernel_rfl) (fun _ _ _ h => h) (Or.inl ⟨by rfl, ?hy10⟩) (by assumption) ?rest10
    case hy10 => (intro w hSw; (try dsimp only at hSw); go_simp; (try with_reducible rfl))
    (try simp only [Act.put, List.getElem_toArray, List.getElem_cons_zero, List.getElem_cons_succ, List.setIfInBounds_toArray, List.set_cons_zero, List.set_cons_succ])
    refine wpAnyH_ready (rs := [8]) (by kernel_rfl) (by simp) ?_
    refine AllReadyH.cons (o := ({ dst := none, op := .store 28 (.tmp 2) (.tmp 45), type := 0, pos := "edit.go:156", after := #[⟨0, .data⟩, ⟨3, .chain⟩, ⟨0, .phase⟩, ⟨1, .textOnly .lateStores⟩, ⟨2, .textOnly .lateStores⟩, ⟨3, .textOnly .lateStores⟩, ⟨4, .textOnly .lateStores⟩, ⟨5, .textOnly .lateStores⟩, ⟨6, .textOnly .lateStores⟩, ⟨7, .textOnly .lateStores⟩], guard := none } : Go.Oper)) rfl (fun K hK => ?_) AllReadyH.nil
    go_simp
    refine hK.out _ _ (by (try dsimp only); simp only [World.cell?_drew, HK5.out.1, HK5.out.2.1, HK5.out.2.2.1, HK5.out.2.2.2.1, HK5.out.2.2.2.2.1, HK5.out.2.2.2.2.2.1, HK5.out.2.2.2.2.2.2, HK6.out.1, HK6.out.2.1, HK6.out.2.2.1, HK6.out.2.2.2.1, HK6.out.2.2.2.2.1, HK6.out.2.2.2.2.2.1, HK6.out.2.2.2.2.2.2, and_self]) (fun hHeld => ?_)
    clear hK K
    (try simp only [Act.put, List.getElem_toArray, List.getElem_cons_zero, List.getElem_cons_succ, List.setIfInBounds_toArray, List.set_cons_zero, List.set_cons_succ])
    refine wpAnyH_take (i := 9) (oi := ({ dst := some 3, op := .assign (.tmp 52), type := 4, pos := "edit.go:156", after := #[⟨7, .data⟩, ⟨8, .chain⟩, ⟨0, .phase⟩, ⟨1, .phase⟩, ⟨2, .phase⟩, ⟨3, .phase⟩, ⟨4, .phase⟩, ⟨5, .phase⟩, ⟨6, .phase⟩, ⟨7, .phase⟩, ⟨8, .phase⟩], guard := none } : Go.Oper)) (v := ?v11) rfl (by kernel_rfl) (by kernel_rfl) (by kernel_rfl) (fun _ _ _ h => h) (Or.inl ⟨by rfl, ?hy11⟩) (by assumption) ?rest11
    case hy11 => (intro w hSw; (try dsimp only at hSw); go_simp; (try with_reducible rfl))
    (try simp only [Act.put, List.getElem_toArray, List.getElem_cons_zero, List.getElem_cons_succ, List.setIfInBounds_toArray, List.set_cons_zero, List.set_cons_succ])
    refine wpAnyH_done (by kernel_rfl) ?_ _
    all_goals
      obtain ⟨z0, z1, z2, z3, z4, z5⟩ := box6 (set6 (HC5.out w5 (Ext.rfl_ _)).b0 (.slice none 0 0) (.slice A3 x.ts.length m3) (.int .i64 x.next) (.int .i64 x.log) (.int .i64 x.index) (.int .i64 x.seq))
      have HS5' := HS5.out
      go_wp2
      refine bodyPost_ret (v := .tuple #[edV A3 x.ts.length m3 x, .bool true]) (by simp [results, Tryz.f37, go_sem, z0, z1, z2, z3, z4, z5, edV]) rfl ?_
      obtain ⟨B, m, d, b0, eB, ho⟩ := HS5'.ot
      cases eB
      have ho2 := (ho.chgN HS5'.b0 (by decide) noU86 (ho.ne HS5'.b0 (by decide)) (grown6 w5 w.heap.size (.slice none 0 0) (.slice A3 x.ts.length m3) (.int .i64 x.next) (.int .i64 x.log) (.int .i64 x.index) (.int .i64 x.seq)))
      obtain ⟨B', d', e', hcd, hr', _⟩ := ho2.form (by unfold B47; omega)
      cases e'
      refine ⟨A3, m3, rfl, ?_, hcd, ?_⟩
      · exact hr'.ext (by with_reducible (repeat (first | exact Ext.rfl_ _ | assumption | refine Ext.drew ?_ | refine Ext.drewN ?_ _ | refine Ext.alloc ?_ _ | refine Ext.trans ?_ (by assumption))))
      · exact (extSet6 HS5'.xt (Nat.le_refl _) _ _ _ _ _ _).trans (by with_reducible (repeat (first | exact Ext.rfl_ _ | assumption | refine Ext.drew ?_ | refine Ext.drewN ?_ _ | refine Ext.alloc ?_ _ | refine Ext.trans ?_ (by assumption))))

end Go.Proofs.YteooaplimiifiaaGreat
