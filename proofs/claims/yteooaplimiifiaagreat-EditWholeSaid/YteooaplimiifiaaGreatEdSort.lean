/- The library's sort at tables, by the order of a version. Conditions: the list is the call's own. -/
import Derived.Test.YteooaplimiifiaaGreatSortL
import Derived.Test.YteooaplimiifiaaGreatEdDoM
import Derived.Test.YteooaplimiifiaaGreatEdDelF
import Derived.Shelf.SlSortCmp.NoneTotal
namespace Go.Proofs.YteooaplimiifiaaGreat
set_option linter.unusedSimpArgs false
set_option linter.unusedVariables false
set_option maxRecDepth 100000
open Go.RowKit Go.Sort

abbrev PrE (w : World) (base : Nat) := {q : Pr // ElT w base q.1 q.2}
theorem prE_some (w : World) (base : Nat) : ElT w base ⟨none, 0, 0, none, 0, 0⟩ ⟨0, 0, [], [], 0⟩ :=
  ⟨⟨none, 0, 0, none, 0, 0, rfl, Rd.nil _ _, Rd.nil _ _, Nat.le_refl _, Nat.zero_le _, Nat.le_refl _, Nat.zero_le _, ⟨by decide, by decide⟩, ⟨by decide, by decide⟩, ⟨by decide, by decide⟩⟩, fun h => absurd h (by decide), fun h => absurd h (by decide)⟩
instance (w : World) (base : Nat) : Inhabited (PrE w base) := ⟨⟨(_, _), prE_some w base⟩⟩
def encP {w : World} {base : Nat} (x : PrE w base) : List Value := cellsP x.1
def cfP {w : World} {base : Nat} (x y : PrE w base) : Int := ordT x.1.2 y.1.2

theorem swoP (w : World) (base : Nat) : SWO (ltOf (cfP (w := w) (base := base))) where
  irrefl x := by
    have := ordT_anti x.1.2 x.1.2
    show decide (ordT x.1.2 x.1.2 < 0) = false
    rw [decide_eq_false_iff_not]
    omega
  trans x y z h1 h2 := by
    exact decide_eq_true (ordT_trans (of_decide_eq_true h1) (of_decide_eq_true h2))
  ntrans x y z h1 h2 := by
    exact decide_eq_false (ordT_le (of_decide_eq_false h2) (of_decide_eq_false h1))

/-- The pairs of such an array. -/
def prsA {w : World} {base : Nat} (d : Array (PrE w base)) : List Pr := d.toList.map Subtype.val
theorem prsA_len {w : World} {base : Nat} (d : Array (PrE w base)) : (prsA d).length = d.size := by simp [prsA]

theorem prsA_of {w : World} {base : Nat} {L : List Pr} (h : ElP w base L) : ∃ d : Array (PrE w base), prsA d = L := by
  have : ∃ l : List (PrE w base), l.map Subtype.val = L := by
    induction L with
    | nil => exact ⟨[], rfl⟩
    | cons q L ih =>
      obtain ⟨l, e⟩ := ih (fun p hp => h p (List.mem_cons_of_mem _ hp))
      exact ⟨⟨q, h q List.mem_cons_self⟩ :: l, by simp [e]⟩
  obtain ⟨l, e⟩ := this
  exact ⟨l.toArray, by simpa [prsA] using e⟩
theorem rowP_get (L : List Pr) (k : Nat) (hk : k < L.length) (j : Nat) (hj : j < 5) : (rowP L)[k * 5 + j]? = (cellsP L[k])[j]? := by
  have e0 := rowP_zip (L.map Prod.fst) (L.map Prod.snd)
  have e1 : (L.map Prod.fst).zip (L.map Prod.snd) = L := (List.zip_of_prod rfl rfl).symm
  rw [e1] at e0
  have h1 := rowT_get (hs := L.map Prod.fst) (xs := L.map Prod.snd) (by simp) k (by simpa using hk) j hj
  rw [← e0] at h1
  rw [h1]
  simp [cellsP]
theorem flat_get {w : World} {base : Nat} (d : Array (PrE w base)) (t : Nat) (ht : t < d.size * 5) : (rowP (prsA d))[t]? = some (flatK encP 5 d)[t]! := by
  rw [get_flatK _ _ _ _ ht]
  have hk : t / 5 < d.size := by omega
  have hd : t = t / 5 * 5 + t % 5 := by omega
  conv => lhs; rw [hd]
  rw [rowP_get _ _ (by rw [prsA_len]; exact hk) _ (Nat.mod_lt _ (by omega))]
  have hl : t % 5 < (cellsP (d[t / 5]!).1).length := by rw [cellsP_len]; exact Nat.mod_lt _ (by omega)
  have e : (prsA d)[t / 5]'(by rw [prsA_len]; exact hk) = (d[t / 5]!).1 := by
    simp [prsA, getElem!_pos d (t / 5) hk]
  rw [e]
  unfold encP
  rw [List.getElem?_eq_getElem hl, getElem!_pos (cellsP (d[t / 5]!).1) (t % 5) hl]

theorem RowP.holds {w W : World} {base g : Nat} {d : Array (PrE w base)} {tail : List Value} (h : RowP W g (prsA d) tail) : HoldsK encP 5 W g 0 d := by
  intro j hj
  rw [size_flatK] at hj
  have hh : W.heap[g]? = some (.cells (rowP (prsA d) ++ tail).toArray 42 (0, 0)) := h
  have hl : j < (rowP (prsA d)).length := by rw [rowP_len, prsA_len]; exact hj
  constructor
  · unfold World.cell?
    simp only [hh, Nat.zero_add, List.getElem?_toArray]
    rw [List.getElem?_append_left hl, flat_get d j hj]
    rfl
  · unfold World.frozen?
    simp [hh]

/-- A world of the sort's: what the row holds. -/
theorem sortW_row {w : World} {base g : Nat} {d d' : Array (PrE w base)} {tail : List Value} (h : RowP w g (prsA d) tail) (hs : d'.size = d.size) (n : Nat) (os : Array Obj) :
    RowP (sortWorldK encP 5 w g 0 n d' os) g (prsA d') tail ∧ w.grownBy (sortWorldK encP 5 w g 0 n d' os) (some g) := by
  have hh : w.heap[g]? = some (.cells (rowP (prsA d) ++ tail).toArray 42 (0, 0)) := h
  have hg : g < w.heap.size := (Array.getElem?_eq_some_iff.1 hh).1
  have hheap : (sortWorldK encP 5 w g 0 n d' os).heap = (w.heap.modify g (onCells (putCells id 0 (flatK encP 5 d')))) ++ os := rfl
  constructor
  · show (sortWorldK encP 5 w g 0 n d' os).heap[g]? = _
    rw [hheap, Array.getElem?_append_left (by simpa using hg), Array.getElem?_modify, if_pos rfl, hh]
    simp only [Option.map_some, onCells]
    congr 2
    apply Array.ext'
    apply List.ext_getElem?
    intro k
    simp only [putCells, Array.toList_mapIdx, List.getElem?_mapIdx, size_flatK, Nat.zero_le, true_and, Nat.zero_add, Nat.sub_zero, List.toList_toArray]
    by_cases hk : k < d'.size * 5
    · rw [List.getElem?_append_left (by rw [rowP_len, prsA_len]; omega), List.getElem?_append_left (by rw [rowP_len, prsA_len]; omega)]
      rw [flat_get d k (by omega), flat_get d' k hk]
      simp [hk]
    · rw [List.getElem?_append_right (by rw [rowP_len, prsA_len]; omega), List.getElem?_append_right (by rw [rowP_len, prsA_len]; omega)]
      rw [hs] at hk
      simp only [hk, if_false, rowP_len, prsA_len, hs]
      cases tail[k - d.size * 5]? <;> rfl
  · refine ⟨rfl, rfl, rfl, by rw [hheap]; simp, fun k hk hne => ?_⟩
    rw [hheap, Array.getElem?_append_left (by simpa using hk), Array.getElem?_modify, if_neg (fun e => hne (by rw [e]))]

theorem enter_order : ∀ args w, (callFunc 21 args).run Tryz.prog w = .ok (.enter 21 args) w := enters_of Tryz.func21 (by kernel_rfl) rfl

theorem cmpLays_order {w : World} {base g : Nat} {d : Array (PrE w base)} {tail : List Value} (h : RowP w g (prsA d) tail) (hb : base ≤ g) :
    CmpLays Tryz.prog 21 #[] encP 5 (cfP (w := w) (base := base)) g 0 d.size w := by
  intro m os dk hs x y
  obtain ⟨_, hg⟩ := sortW_row (d' := dk) h hs m os
  have hr : ∀ k, some g = some k → base ≤ k ∧ ∃ cs fr, w.heap[k]? = some (.cells cs 42 fr) := fun k hk => by cases hk; exact ⟨hb, _, _, h⟩
  have hx := (x.2.grown hg hr).1
  have hy := (y.2.grown hg hr).1
  refine (order_any _ _ _ _ _ hx hy).mono ?_
  rintro e w' ⟨rfl, rfl⟩
  exact ⟨rfl, 0, #[_, _], by rw [alloc_eq_grow, alloc_eq_grow, grow_grow]; rfl⟩

set_option maxHeartbeats 1000000 in
theorem sortT_any (base : Nat) (v : Value) (ts : List Tab) (w : World) (hO : OwnT w base v ts) (hn : ts.length ≤ 1000000) :
    Calls Tryz.prog 20 #[v, .func (.func 21) #[] #[]] w fun e w' =>
      e = .returned (.tuple #[]) ∧ ∃ S : List Tab, S.Perm ts ∧ SortedT S ∧ OwnT w' base v S ∧ w.grownBy w' v.ownBlock := by
  by_cases hv : v = .slice none 0 0
  · subst hv
    have ht : ts = [] := by
      obtain ⟨A, c, e, _⟩ := hO.form (by unfold B47; omega)
      injection e with _ h0 _
      exact List.eq_nil_of_length_eq_zero h0.symm
    subst ht
    refine (AnyF.slices_SortFunc_none laysSort none 0 _ w).mono ?_
    rintro e w' ⟨rfl, rfl⟩
    exact ⟨rfl, [], List.Perm.refl _, List.Pairwise.nil, hO, World.grownBy.refl _ _⟩
  obtain ⟨b, cap, L, tail, rfl, hb, hrow, hL, hE, hcap, hmx, htl⟩ := hO.row hv
  obtain ⟨d, hd⟩ := prsA_of hE
  have hds : d.size = ts.length := by rw [← prsA_len, hd, ← hL]; simp
  rw [← hd] at hrow
  have hbl : b < w.heap.size := (Array.getElem?_eq_some_iff.1 (show w.heap[b]? = some _ from hrow)).1
  have hcon := AnyQ.slices_SortFunc laysSort 5 Tryz.isAgg42 Tryz.sizeOf42 encP (fun x => cellsP_len x.1) (fun x => cellsP_one x.1) cfP (swoP w base) 21 #[] b 0 cap d w enter_order (cmpLays_order hrow hb) hrow.holds hbl (by rw [hds]; omega)
  rw [hds] at hcon
  refine hcon.mono ?_
  rintro e w' ⟨rfl, d', n, os, hp, hs, rfl⟩
  obtain ⟨hr2, hg2⟩ := sortW_row (d' := d') hrow hp.1 n os
  have hpl : d'.toList.Perm d.toList := by
    have := hp.2.2
    have e1 : d'.extract 0 ts.length = d' := by rw [← hds, ← hp.1, Array.extract_size]
    have e2 : d.extract 0 ts.length = d := by rw [← hds, Array.extract_size]
    rwa [e1, e2] at this
  have hpp : (prsA d').Perm L := by rw [← hd]; exact hpl.map _
  have hperm : ((prsA d').map Prod.snd).Perm ts := by rw [← hL]; exact hpp.map _
  have hd's : d'.size = ts.length := by rw [hp.1, hds]
  have hl' : (prsA d').length = ts.length := by rw [prsA_len, hd's]
  refine ⟨rfl, (prsA d').map Prod.snd, hperm, ?_, ?_, hg2⟩
  · unfold SortedT
    rw [List.pairwise_iff_getElem]
    intro i j hi hj hij
    have hi' : i < d'.size := by simpa [prsA] using hi
    have hj' : j < d'.size := by simpa [prsA] using hj
    have h := hs i j (Nat.zero_le _) hij (by omega)
    rw [getElem!_pos d' i hi', getElem!_pos d' j hj'] at h
    have h3 := of_decide_eq_false h
    simpa [cfP, prsA] using h3
  · have := OwnT.of_row hr2 hb (cap := cap) (fun q hq => ?_) (by rw [hl']; exact hcap) hmx (by rw [hl']; exact htl)
    · rw [hl'] at this; exact this
    · refine (hE q (hpp.mem_iff.1 hq)).grown hg2 (fun k hk => ?_)
      cases hk
      exact ⟨hb, _, _, hrow⟩

end Go.Proofs.YteooaplimiifiaaGreat
