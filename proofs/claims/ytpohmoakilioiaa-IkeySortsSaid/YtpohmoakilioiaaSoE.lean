/- Rows of entries as arrays of the library's sort; SortStableFunc at entries by the program's order. Conditions: the row is the call's own. -/
import Derived.Test.YtpohmoakilioiaaSoG
import Derived.Test.YtpohmoakilioiaaSoR
namespace Go.Proofs.Ytpohmoakilioiaa
set_option linter.unusedSimpArgs false
set_option linter.unusedVariables false
set_option maxRecDepth 100000
open Go.RowKit Go.Sort Go.Shelf

def laysIns_ren : Go.Shelf.Ren := ⟨fun | 20 => 91 | n => n, fun | 24 => 25 | 22 => 42 | 3 => 3 | 25 => 29 | 4 => 4 | 0 => 0 | n => n, fun | n => n⟩
theorem laysIns : Go.Proofs.SlLaysF0.n20 Try.prog laysIns_ren := {
  mixed := by kernel_rfl
  f20 := ⟨Try.f91.name, by decide, Try.func91.trans (congrArg some (by kernel_rfl))⟩
  t0 := Try.underlying0
  a0 := Try.isAgg0
  z0 := Try.sizeOf0
  v0 := Try.zeroValue0
  t3 := Try.underlying3
  a3 := Try.isAgg3
  z3 := Try.sizeOf3
  v3 := Try.zeroValue3
  t4 := Try.underlying4
  a4 := Try.isAgg4
  z4 := Try.sizeOf4
  v4 := Try.zeroValue4
  t22 := Try.underlying42
  a22 := Try.isAgg42
  z22 := Try.sizeOf42
  v22 := Try.zeroValue42
  t25 := Try.underlying29
  a25 := Try.isAgg29
  z25 := Try.sizeOf29
  v25 := Try.zeroValue29 }

/-- An entry, with its two slices, and its place in the list. -/
abbrev Tri := Hdr × Ent × Nat
def cellsQ (q : Tri) : List Value := cellsE q.1 q.2.1
theorem cellsQ_len (q : Tri) : (cellsQ q).length = 4 := rfl
theorem cellsQ_one (q : Tri) : ∀ v ∈ cellsQ q, v.oneCell' = true := by
  intro v hv
  simp [cellsQ, cellsE] at hv
  rcases hv with rfl | rfl | rfl | rfl <;> rfl
def rowQ (L : List Tri) : List Value := (L.map cellsQ).flatten
theorem rowQ_eq (L : List Tri) : rowE (L.map Prod.fst) (L.map fun q => q.2.1) = rowQ L := by
  induction L with
  | nil => rfl
  | cons q L ih =>
    show cellsE q.1 q.2.1 ++ rowE (L.map Prod.fst) (L.map fun q => q.2.1) = cellsQ q ++ rowQ L
    rw [ih]; rfl
theorem rowQ_len (L : List Tri) : (rowQ L).length = L.length * 4 := by
  rw [← rowQ_eq, rowE_length (by simp)]; simp
theorem rowQ_get (L : List Tri) (k : Nat) (hk : k < L.length) (j : Nat) (hj : j < 4) : (rowQ L)[k * 4 + j]? = (cellsQ L[k])[j]? := by
  rw [← rowQ_eq]
  have h := rowE_get (hs := L.map Prod.fst) (xs := L.map fun q => q.2.1) (by simp) k (by simpa using hk) j hj
  rw [h]
  simp [cellsQ]

/-- Entries all of whose bytes are the call's own. -/
abbrev Er (w : World) (base : Nat) := {q : Tri // FrE w base (.agg (cellsQ q).toArray) q.2.1}
theorem er_some (w : World) (base : Nat) : FrE w base (.agg (cellsQ (⟨none, 0, 0, none, 0, 0⟩, ⟨[], 0, 0, []⟩, 0)).toArray) ⟨[], 0, 0, []⟩ :=
  ⟨none, 0, 0, none, 0, 0, rfl, OwnB.nil _ _, OwnB.nil _ _, Rd.nil _ _, Rd.nil _ _, Nat.le_refl _, Nat.zero_le _, Nat.le_refl _, Nat.zero_le _, fun h => absurd h (by decide), fun h => absurd h (by decide)⟩
instance (w : World) (base : Nat) : Inhabited (Er w base) := ⟨⟨(_, _, _), er_some w base⟩⟩
def encE {w : World} {base : Nat} (x : Er w base) : List Value := cellsQ x.1
def cfE {w : World} {base : Nat} (x y : Er w base) : Int := cmpE x.1.2.1 y.1.2.1
def ixE {w : World} {base : Nat} (x : Er w base) : Nat := x.1.2.2

theorem cmpE_le (x y z : Ent) (h1 : ¬ cmpE x y < 0) (h2 : ¬ cmpE y z < 0) : ¬ cmpE x z < 0 := by
  have a1 := cmpE_anti x y
  have a2 := cmpE_anti y z
  have a3 := cmpE_anti x z
  have := cmpE_trans z y x (by omega) (by omega)
  omega
theorem swoE (w : World) (base : Nat) : SWO (ltOf (cfE (w := w) (base := base))) where
  irrefl x := by
    have := cmpE_anti x.1.2.1 x.1.2.1
    show decide (cmpE x.1.2.1 x.1.2.1 < 0) = false
    rw [decide_eq_false_iff_not]
    omega
  trans x y z h1 h2 := by
    have h1 : cmpE x.1.2.1 y.1.2.1 < 0 := of_decide_eq_true h1
    have h2 : cmpE y.1.2.1 z.1.2.1 < 0 := of_decide_eq_true h2
    refine decide_eq_true ?_
    show cmpE x.1.2.1 z.1.2.1 < 0
    have a1 := cmpE_anti x.1.2.1 y.1.2.1
    have a2 := cmpE_anti y.1.2.1 z.1.2.1
    have a3 := cmpE_anti x.1.2.1 z.1.2.1
    have k := cmpE_trans x.1.2.1 y.1.2.1 z.1.2.1 (by omega) (by omega)
    by_cases c : cmpE x.1.2.1 z.1.2.1 = 0
    · have := cmpE_trans z.1.2.1 x.1.2.1 y.1.2.1 (by omega) (by omega)
      omega
    · omega
  ntrans x y z h1 h2 := decide_eq_false (cmpE_le _ _ _ (of_decide_eq_false h1) (of_decide_eq_false h2))

def prs {w : World} {base : Nat} (d : Array (Er w base)) : List Tri := d.toList.map Subtype.val
theorem prs_len {w : World} {base : Nat} (d : Array (Er w base)) : (prs d).length = d.size := by simp [prs]
theorem prs_of {w : World} {base : Nat} {L : List Tri} (h : ∀ q ∈ L, FrE w base (.agg (cellsQ q).toArray) q.2.1) : ∃ d : Array (Er w base), prs d = L := by
  have : ∃ l : List (Er w base), l.map Subtype.val = L := by
    induction L with
    | nil => exact ⟨[], rfl⟩
    | cons q L ih =>
      obtain ⟨l, e⟩ := ih (fun p hp => h p (List.mem_cons_of_mem _ hp))
      exact ⟨⟨q, h q List.mem_cons_self⟩ :: l, by simp [e]⟩
  obtain ⟨l, e⟩ := this
  exact ⟨l.toArray, by simpa [prs] using e⟩
theorem flat_getE {w : World} {base : Nat} (d : Array (Er w base)) (t : Nat) (ht : t < d.size * 4) : (rowQ (prs d))[t]? = some (flatK encE 4 d)[t]! := by
  rw [get_flatK _ _ _ _ ht]
  have hk : t / 4 < d.size := by omega
  have hd : t = t / 4 * 4 + t % 4 := by omega
  conv => lhs; rw [hd]
  rw [rowQ_get _ _ (by rw [prs_len]; exact hk) _ (Nat.mod_lt _ (by omega))]
  have hl : t % 4 < (cellsQ (d[t / 4]!).1).length := by rw [cellsQ_len]; exact Nat.mod_lt _ (by omega)
  have e : (prs d)[t / 4]'(by rw [prs_len]; exact hk) = (d[t / 4]!).1 := by
    simp [prs, getElem!_pos d (t / 4) hk]
  rw [e]
  unfold encE
  rw [List.getElem?_eq_getElem hl, getElem!_pos (cellsQ (d[t / 4]!).1) (t % 4) hl]

/-- A block that begins with a row. -/
def RowQ (w : World) (g : Nat) (L : List Tri) (tail : List Value) : Prop := w.heap[g]? = some (.cells (rowQ L ++ tail).toArray 25 (0, 0))
theorem RowQ.holds {w W : World} {base g : Nat} {d : Array (Er w base)} {tail : List Value} (h : RowQ W g (prs d) tail) : HoldsK encE 4 W g 0 d := by
  intro j hj
  rw [size_flatK] at hj
  have hh : W.heap[g]? = some (.cells (rowQ (prs d) ++ tail).toArray 25 (0, 0)) := h
  have hl : j < (rowQ (prs d)).length := by rw [rowQ_len, prs_len]; exact hj
  constructor
  · unfold World.cell?
    simp only [hh, Nat.zero_add, List.getElem?_toArray]
    rw [List.getElem?_append_left hl, flat_getE d j hj]
    rfl
  · unfold World.frozen?
    simp [hh]

/-- A world of the sort's: what the row holds. -/
theorem sortE_row {w W : World} {base g : Nat} {d d' : Array (Er w base)} {tail : List Value} (h : RowQ W g (prs d) tail) (hs : d'.size = d.size) (n : Nat) (os : Array Obj) :
    RowQ (sortWorldK encE 4 W g 0 n d' os) g (prs d') tail ∧ W.grownBy (sortWorldK encE 4 W g 0 n d' os) (some g) := by
  have hh : W.heap[g]? = some (.cells (rowQ (prs d) ++ tail).toArray 25 (0, 0)) := h
  have hg : g < W.heap.size := (Array.getElem?_eq_some_iff.1 hh).1
  have hheap : (sortWorldK encE 4 W g 0 n d' os).heap = (W.heap.modify g (onCells (putCells id 0 (flatK encE 4 d')))) ++ os := rfl
  constructor
  · show (sortWorldK encE 4 W g 0 n d' os).heap[g]? = _
    rw [hheap, Array.getElem?_append_left (by simpa using hg), Array.getElem?_modify, if_pos rfl, hh]
    simp only [Option.map_some, onCells]
    congr 2
    apply Array.ext'
    apply List.ext_getElem?
    intro k
    simp only [putCells, Array.toList_mapIdx, List.getElem?_mapIdx, size_flatK, Nat.zero_le, true_and, Nat.zero_add, Nat.sub_zero, List.toList_toArray]
    by_cases hk : k < d'.size * 4
    · rw [List.getElem?_append_left (by rw [rowQ_len, prs_len]; omega), List.getElem?_append_left (by rw [rowQ_len, prs_len]; omega)]
      rw [flat_getE d k (by omega), flat_getE d' k hk]
      simp [hk]
    · rw [List.getElem?_append_right (by rw [rowQ_len, prs_len]; omega), List.getElem?_append_right (by rw [rowQ_len, prs_len]; omega)]
      rw [hs] at hk
      simp only [hk, if_false, rowQ_len, prs_len, hs]
      cases tail[k - d.size * 4]? <;> rfl
  · refine ⟨rfl, rfl, rfl, by rw [hheap]; simp, fun k hk hne => ?_⟩
    rw [hheap, Array.getElem?_append_left (by simpa using hk), Array.getElem?_modify, if_neg (fun e => hne (by rw [e]))]

/-- A row of the call's own, as a block. -/
theorem OwnF.row {w : World} {base : Nat} {v : Value} {xs : List Ent} (h : OwnF w base v xs) (hv : v ≠ .slice none 0 0) :
    ∃ g cap L tail, v = .slice (some ⟨g, 0, none⟩) xs.length cap ∧ base ≤ g ∧ RowQ w g L tail ∧ L.map Prod.snd = xs.zipIdx ∧ (∀ q ∈ L, FrE w base (.agg (cellsQ q).toArray) q.2.1) ∧ xs.length ≤ cap ∧ cap ≤ maxLen ∧ tail.length + xs.length * 4 = cap * 4 := by
  obtain ⟨hs, hl, ho, hr⟩ := h
  rcases ho.2 with ⟨rfl, _⟩ | ⟨g, cap, cur, rfl, hb, hg, hc, hm, hcs, ht⟩
  · exact absurd rfl hv
  · have e1 : (hs.zip xs.zipIdx).map Prod.snd = xs.zipIdx := List.map_snd_zip (by simp; omega)
    have e2 : (hs.zip xs.zipIdx).map Prod.fst = hs := List.map_fst_zip (by simp; omega)
    have e3 : ((hs.zip xs.zipIdx).map fun q => q.2.1) = xs := by
      have : ((hs.zip xs.zipIdx).map fun q => q.2.1) = ((hs.zip xs.zipIdx).map Prod.snd).map Prod.fst := by simp
      rw [this, e1]
      simp
    refine ⟨g, cap, hs.zip xs.zipIdx, cur.toList.drop (xs.length * 4), rfl, hb, ?_, e1, ?_, hc, hm, ?_⟩
    · unfold RowQ
      rw [← rowQ_eq, e2, e3, ← ht, List.take_append_drop]
      exact hg
    · intro q hq
      obtain ⟨i, hi, rfl⟩ := List.mem_iff_getElem.1 hq
      rw [List.length_zip, List.length_zipIdx] at hi
      have k := hr i (by omega) (by omega)
      simpa [cellsQ] using k
    · rw [List.length_drop, Array.length_toList, hcs]
      omega
theorem OwnF.of_row {w : World} {base g cap : Nat} {L : List Tri} {tail : List Value} (h : RowQ w g L tail) (hb : base ≤ g) (he : ∀ q ∈ L, FrE w base (.agg (cellsQ q).toArray) q.2.1) (hc : L.length ≤ cap) (hm : cap ≤ maxLen) (ht : tail.length + L.length * 4 = cap * 4) :
    OwnF w base (.slice (some ⟨g, 0, none⟩) L.length cap) (L.map fun q => q.2.1) := by
  refine ⟨L.map Prod.fst, by simp, ⟨?_, .inr ⟨g, cap, _, by simp, hb, h, by simpa using hc, hm, ?_, ?_⟩⟩, fun k h1 h2 => ?_⟩
  · rw [rowE_length (by simp)]
  · simp [rowQ_len]; omega
  · rw [List.toList_toArray, rowQ_eq, List.length_map, List.take_left' (rowQ_len L)]
  · simp only [List.getElem_map]
    exact he _ (List.getElem_mem _)

/-- S is xs in order, equal ones as they stood. -/
def IsSrt (xs S : List Ent) : Prop := ∃ ds : List (Ent × Nat), ds.map Prod.fst = S ∧ ds.Perm xs.zipIdx ∧ ds.Pairwise fun p q => ¬ cmpE q.1 p.1 < 0 ∧ (¬ cmpE p.1 q.1 < 0 → p.2 < q.2)
theorem IsSrt.one {xs S S' : List Ent} (h : IsSrt xs S) (h' : IsSrt xs S') : S = S' := by
  obtain ⟨ds, rfl, p, w⟩ := h
  obtain ⟨ds', rfl, p', w'⟩ := h'
  have : ds = ds' := (p.trans p'.symm).eq_of_pairwise (fun x y _ _ h1 h2 => by
    have := h1.2 h2.1
    have := h2.2 h1.1
    omega) w w'
  rw [this]
theorem isSrt_nil : IsSrt [] [] := ⟨[], rfl, List.Perm.refl _, List.Pairwise.nil⟩
theorem IsSrt.perm {xs S : List Ent} (h : IsSrt xs S) : S.Perm xs := by
  obtain ⟨ds, rfl, p, _⟩ := h
  have := p.map Prod.fst
  simpa using this

/-- What comes of a merge of the whole: the list in order. -/
theorem srt_of {w : World} {base : Nat} {d d' : Array (Er w base)} {xs : List Ent} (he : (prs d).map Prod.snd = xs.zipIdx) (m : Mrg (ltOf cfE) ixE d d' 0 d.size) : IsSrt xs ((prs d').map fun q => q.2.1) := by
  have hpl : d'.toList.Perm d.toList := by
    have := m.perm.2.2
    have e1 : d'.extract 0 d.size = d' := by rw [← m.perm.1, Array.extract_size]
    have e2 : d.extract 0 d.size = d := by rw [Array.extract_size]
    rwa [e1, e2] at this
  have hst : Stb (ltOf cfE) ixE d := by
    intro i j hij hj _ _
    have h1 : ∀ k (hk : k < d.size), ixE d[k]! = k := fun k hk => by
      have hk2 : k < (prs d).length := by rw [prs_len]; exact hk
      have e : ((prs d).map Prod.snd)[k]? = (xs.zipIdx)[k]? := by rw [he]
      rw [List.getElem?_map, List.getElem?_eq_getElem hk2, List.getElem?_zipIdx] at e
      simp only [Option.map_some] at e
      cases hx : xs[k]? with
      | none => rw [hx] at e; simp at e
      | some x =>
        rw [hx] at e
        simp only [Option.map_some, Option.some.injEq] at e
        rw [getElem!_pos d k hk]
        have e2 : (prs d)[k] = d[k].1 := by simp [prs]
        rw [e2] at e
        show d[k].1.2.2 = k
        rw [e]
        simp
    rw [h1 i (by omega), h1 j hj]
    exact hij
  have hw := pairwise_of (lt := ltOf cfE) (ix := ixE) (d := d') (by rw [m.perm.1]; exact m.sort) (m.stb hst)
  refine ⟨(prs d').map Prod.snd, by simp, ?_, ?_⟩
  · rw [← he]
    exact (hpl.map Subtype.val).map _
  · unfold prs
    rw [List.map_map, List.pairwise_map]
    refine hw.imp fun {x y} h => ⟨of_decide_eq_false h.1, fun k => h.2 (decide_eq_false k)⟩

theorem enter_sort1 : ∀ args w, (callFunc 73 args).run Try.prog w = .ok (.enter 73 args) w := enters_of Try.func73 (by kernel_rfl) rfl

theorem sort1_any (u v : Value) (x y : Ent) (w : World) (hx : RdE w u x) (hy : RdE w v y) :
    Calls Try.prog 73 #[u, v] w fun e w' => e = .returned (.int .i64 (cmpE x y)) ∧ Gro w w' := by
  have HX := Lib.hid hx
  have HY := Lib.hid hy
  obtain ⟨A, n, c, A', n', c', rfl, _⟩ := hx
  obtain ⟨B, m, d, B', m', d', rfl, _⟩ := hy
  have b1 := blk1 w (.cells #[.slice A n c, .int .i64 x.seq, .int .i64 x.kind, .slice A' n' c'] 25)
  have b2 := blk1 (w.alloc (.cells #[.slice A n c, .int .i64 x.seq, .int .i64 x.kind, .slice A' n' c'] 25)) (.cells #[.slice B m d, .int .i64 y.seq, .int .i64 y.kind, .slice B' m' d'] 25)
  rw [World.size_alloc] at b2
  have B1 := Lib.hid b1
  have B2 := Lib.hid b2
  clear b1 b2
  go_enter Try.func73, Try.ntmps73
  go_wp2_with fail
  refine (compareG_any _ _ x y _ (HX.out.ext (by with_reducible (repeat (first | exact Ext.rfl_ _ | assumption | refine Ext.drew ?_ | refine Ext.drewN ?_ _ | refine Ext.alloc ?_ _ | refine Ext.trans ?_ (by assumption))))) (HY.out.ext (by with_reducible (repeat (first | exact Ext.rfl_ _ | assumption | refine Ext.drew ?_ | refine Ext.drewN ?_ _ | refine Ext.alloc ?_ _ | refine Ext.trans ?_ (by assumption)))))).mono ?_
  rintro e w1 ⟨rfl, hw1⟩
  go_wp2
  go_ret
  exact ⟨rfl, (by with_reducible (repeat (first | exact Gro.rfl_ _ | assumption | refine Gro.drew ?_ | refine Gro.drewN ?_ _ | refine Gro.alloc ?_ _ | refine Gro.trans ?_ (by assumption))))⟩

theorem cmpLays_of {w : World} {base g f : Nat} {cb : Array Value} {d : Array (Er w base)} {tail : List Value} (h : RowQ w g (prs d) tail) (hb : base ≤ g)
    (hc : ∀ (u v : Value) (x y : Ent) (W : World), RdE W u x → RdE W v y → Calls Try.prog f (#[u, v] ++ cb) W fun e w' => e = .returned (.int .i64 (cmpE x y)) ∧ Gro W w') :
    CmpLays Try.prog f cb encE 4 (cfE (w := w) (base := base)) g 0 d.size w := by
  intro m os dk hs x y
  obtain ⟨_, hg⟩ := sortE_row (d' := dk) h hs m os
  have hr : ∀ k, some g = some k → ∃ cs fr, w.heap[k]? = some (.cells cs 25 fr) := fun k hk => by cases hk; exact ⟨_, _, h⟩
  have kk := Kx.of_grown hg hr
  have hx := (x.2.kx kk (by decide)).rd
  have hy := (y.2.kx kk (by decide)).rd
  refine (hc _ _ _ _ _ hx hy).mono ?_
  rintro e w' ⟨rfl, q, os', rfl⟩
  exact ⟨rfl, q, os', rfl⟩

theorem _root_.Go.World.grownBy.trans_ {a b c : World} {row : Option Nat} (h : a.grownBy b row) (k : b.grownBy c row) : a.grownBy c row :=
  ⟨k.os.trans h.os, k.tape.trans h.tape, k.output.trans h.output, Nat.le_trans h.size k.size, fun i hi hne => (k.block i (Nat.lt_of_lt_of_le hi h.size) hne).trans (h.block i hi hne)⟩
theorem Ext.grownBy {a b : World} (h : Ext a b) (row : Option Nat) : a.grownBy b row := ⟨(Ext.below h).os, (Ext.below h).tape, (Ext.below h).output, (Ext.below h).size, fun k hk _ => (Ext.below h).block k hk⟩

set_option maxHeartbeats 4000000 in
theorem insNil_any (w : World) (f : Value) : Calls Try.prog 91 #[.slice none 0 0, .int .i64 0, .int .i64 0, f] w fun e w' => e = .returned (.tuple #[]) ∧ Gro w w' := by
  go_enter Try.func91, Try.ntmps91
  go_wp2
  go_loopw [8] (fun i wr => i = .int .i64 1 ∧ wr = w) (fun _ _ => 0)
  case atStart => exact ⟨rfl, rfl⟩
  case round =>
    obtain ⟨rfl, rfl⟩ := hrel
    go_wp2
    go_end0
    exact ⟨rfl, Gro.rfl_ _⟩
set_option maxHeartbeats 4000000 in
theorem stable0_any (w : World) (f : Value) : Calls Try.prog 90 #[.slice none 0 0, .int .i64 0, f] w fun e w' => e = .returned (.tuple #[]) ∧ Gro w w' := by
  go_enter Try.func90, Try.ntmps90
  go_wp2
  go_loopw [7, 8] (fun a b wr => a = .int .i64 0 ∧ b = .int .i64 20 ∧ wr = w) (fun _ _ _ => 0)
  case atStart => exact ⟨rfl, rfl, rfl⟩
  case round =>
    obtain ⟨rfl, rfl, rfl⟩ := hrel
    go_wp2_with fail
    refine (insNil_any _ f).mono ?_
    rintro e w1 ⟨rfl, hw1⟩
    go_wp2
    go_loopw [6] (fun a wr => a = .int .i64 20 ∧ wr = w1) (fun _ _ => 0)
    case atStart => exact ⟨rfl, rfl⟩
    case round =>
      obtain ⟨rfl, rfl⟩ := hrel
      go_wp2
      go_end0
      exact ⟨rfl, hw1⟩
theorem stableNil_any (w : World) : Calls Try.prog 72 #[.slice none 0 0, .func (.func 73) #[] #[]] w fun e w' => e = .returned (.tuple #[]) ∧ Gro w w' := by
  go_enter Try.func72, Try.ntmps72
  go_wp2_with fail
  refine (stable0_any _ _).mono ?_
  rintro e w1 ⟨rfl, hw1⟩
  go_wp2
  go_end0
  exact ⟨rfl, hw1⟩

set_option maxHeartbeats 4000000 in
theorem sortE_any (base : Nat) (v : Value) (xs : List Ent) (w : World) (hO : OwnF w base v xs) (hn : xs.length ≤ 1000000) :
    Calls Try.prog 72 #[v, .func (.func 73) #[] #[]] w fun e w' =>
      e = .returned (.tuple #[]) ∧ ∃ S : List Ent, IsSrt xs S ∧ OwnF w' base v S ∧ w.grownBy w' v.ownBlock := by
  by_cases hv : v = .slice none 0 0
  · subst hv
    have hx : xs = [] := by
      obtain ⟨A, c, e, _⟩ := hO.ownL.form (by unfold B41; omega)
      injection e with _ h0 _
      exact List.eq_nil_of_length_eq_zero h0.symm
    subst hx
    refine (stableNil_any w).mono ?_
    rintro e w' ⟨rfl, hw'⟩
    exact ⟨rfl, [], isSrt_nil, OwnF.nil _ _, hw'.ext.grownBy _⟩
  obtain ⟨b, cap, L, tail, rfl, hb, hrow, hL, hE, hcap, hmx, htl⟩ := hO.row hv
  obtain ⟨d, hd⟩ := prs_of hE
  have hds : d.size = xs.length := by rw [← prs_len, hd, ← List.length_map (f := Prod.snd), hL, List.length_zipIdx]
  rw [← hd] at hrow hL
  have hbl : b < w.heap.size := (Array.getElem?_eq_some_iff.1 (show w.heap[b]? = some _ from hrow)).1
  have hR : RowK encE 4 w b 0 d := ⟨fun x => cellsQ_len x.1, fun x => cellsQ_one x.1, hrow.holds, hbl⟩
  have hcl : CmpLays Try.prog 73 #[] encE 4 (cfE (w := w) (base := base)) b 0 d.size w := cmpLays_of hrow hb (fun u v x y W hx hy => sort1_any u v x y W hx hy)
  have eIN : ∀ args w, (callFunc 91 args).run Try.prog w = .ok (.enter 91 args) w := enters_of Try.func91 (by kernel_rfl) rfl
  have hcon := stable_any 4 lyT encE cfE 73 #[] b 0 cap d d w w enter_sort1 hcl (swoE w base) ixE hR rfl (SWK.start hrow.holds) (by omega) eIN (fun a b2 d1 w1 hs S hab hb2 => by
    have hC : CmpLays Try.prog 73 #[] encE 4 (cfE (w := w) (base := base)) b 0 d1.size w1 := fun m os dk hdk x y => by
      obtain ⟨n0, os0, rfl⟩ := S
      rw [sortWorldK_on encE 4 w b 0 n0 m d1 dk os0 os hbl hdk]
      exact hcl _ _ dk (by omega) x y
    refine (AnyQ.insertionSortCmpFunc laysIns 4 Try.isAgg25 Try.sizeOf25 encE hR.hk hR.h1 cfE 73 #[] b 0 cap a b2 d1 w1 enter_sort1 hC (S.holds hbl hR.hH hs.symm) (S.lt hbl) hab hb2 (by omega)).mono ?_
    rintro e w' ⟨rfl, n, os, rfl⟩
    exact ⟨rfl, S.on hbl n _ os (insertionSort_holds (swoE w base) d1 a b2 hab hb2).1.1⟩)
  rw [hds] at hcon
  go_enter Try.func72, Try.ntmps72
  go_wp2_with fail
  refine hcon.mono ?_
  rintro e w' ⟨rfl, d', hm, hS⟩
  obtain ⟨n, os, rfl⟩ := hS
  have hs' : d'.size = d.size := hm.perm.1
  obtain ⟨hr2, hg2⟩ := sortE_row (d' := d') hrow hs' n os
  have hsrt := srt_of hL (by rw [hds]; exact hm)
  go_wp2
  go_end0
  refine ⟨rfl, (prs d').map (fun q => q.2.1), hsrt, ?_, hg2⟩
  have := OwnF.of_row hr2 hb (cap := cap) (fun q hq => ?_) (by rw [prs_len, hs', hds]; exact hcap) hmx (by rw [prs_len, hs', hds]; exact htl)
  · rw [prs_len, hs', hds] at this; exact this
  · unfold prs at hq
    obtain ⟨x, _, rfl⟩ := List.mem_map.1 hq
    exact x.2.kx (Kx.of_grown hg2 (fun k hk => by cases hk; exact ⟨_, _, hrow⟩)) (by decide)

end Go.Proofs.Ytpohmoakilioiaa
