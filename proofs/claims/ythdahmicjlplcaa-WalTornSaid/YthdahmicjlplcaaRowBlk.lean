/- Where an appended row stands; rows whose blocks lie from a block on. Conditions: none. -/
/- Rows of batches of the call's own: append. Conditions: none. -/
import Derived.Test.YthdahmicjlplcaaKx
import Derived.Test.YthdahmicjlplcaaBatA
import Derived.Test.YthdahmicjlplcaaFrmG
import Derived.OwnWalkIn
namespace Go.Proofs.Ythdahmicjlplcaa
set_option linter.unusedSimpArgs false
set_option linter.unusedVariables false
open Go.RowKit

theorem run_append_blk {P : Program} (w : World) (base : Nat) (t ty e : TypeId) (i : TypeInfo) (z : Value) (size bytes : Nat) (ht : P.underlying t = some (.slice e)) (hi : P.info? e = some i) (hz : i.zero = some z)
    (hsize : i.size = size) (hby : i.bytes = bytes) (hzs : z.cells.size = size) (hsz : 0 < size)
    (v : Value) (n : Nat) (xs : List Value) (hown : w.ownsRow base e size v n xs)
    (a : Addr) (m c : Nat) (news : List Value) (hl : news.length = m * size) (hnews : ∀ j u, news[j]? = some u → w.cell? (a.add j) = some u) (h1 : ∀ u ∈ news, u.oneCell' = true)
    (h63 : n + m ≤ maxLen) (hbytes : (n + m) * bytes ≤ 140737488355328) {v' : Value} {w' : World} (hr : (Builtin.append_ #[t, t] ty #[v, .slice (some a) m c]).run P w = .ok v' w') :
    ∀ k, v'.ownBlock = some k → v.ownBlock = some k ∨ w.heap.size ≤ k := by
  rcases hown.2 with ⟨rfl, rfl⟩ | ⟨g, cap, cur, rfl, hbg, hg, hnc, hcm, hcs, htake⟩
  · have hx : xs = [] := List.eq_nil_of_length_eq_zero (by simpa using hown.1)
    subst hx
    obtain ⟨v2, w2, h2, h3, _⟩ := run_append_own (P := P) w w.heap.size t ty e i z size bytes ht hi hz hsize hby hzs hsz (.slice none 0 0) 0 [] (World.ownsRow_nil _ _ _ _) a m c news hl hnews h1 h63 hbytes (Nat.le_refl _)
    rw [h2] at hr
    cases hr
    exact fun k hk => .inr (h3.lt k hk).1
  · subst hsize
    subst hby
    by_cases hroom : n + m ≤ cap
    · have hfit : n * i.size + news.length ≤ cur.size := by rw [hl, hcs, ← Nat.add_mul]; exact Nat.mul_le_mul_right _ hroom
      have h2 := run_append_room (P := P) w t ty e i ht hi g n cap cur hg a m c news hl hnews h1 hroom hfit
      rw [h2] at hr
      cases hr
      exact fun k hk => .inl (by simpa [Value.ownBlock] using hk)
    · have holds : ∀ j u, xs[j]? = some u → w.cell? ((⟨g, 0, none⟩ : Addr).add j) = some u := hown.cells (g := g) rfl
      have hsmall : n + m ≤ 9223372036854775807 := by simp only [maxLen] at h63; omega
      have h2 := run_append_grow (P := P) w t ty e i z ht hi hz ⟨g, 0, none⟩ n cap xs hown.1 holds a m c news hl hnews (by omega) (by omega) (growslice_fits (by omega) hbytes)
      rw [h2] at hr
      cases hr
      exact fun k hk => .inr (by simp [Value.ownBlock] at hk; omega)

/-- Blocks from 'base' on stay. -/
def KxB (base : Nat) (w w' : World) : Prop := ∀ (k : Nat) (cs : Array Value) (t : TypeId) (fr : Nat × Nat), base ≤ k → w.heap[k]? = some (Obj.cells cs t fr) → w'.heap[k]? = some (Obj.cells cs t fr)
theorem ownsRow_kxB {e : TypeId} {w w' : World} {base size n : Nat} {v : Value} {xs : List Value} (ho : w.ownsRow base e size v n xs) (k : KxB base w w') : w'.ownsRow base e size v n xs := by
  refine ⟨ho.1, ?_⟩
  rcases ho.2 with hn | ⟨g, cap, cur, hv, hb, hg, rest⟩
  · exact .inl hn
  · exact .inr ⟨g, cap, cur, hv, hb, k g cur e (0, 0) hb hg, rest⟩
theorem OwnB.kxB {w w' : World} {base : Nat} {v : Value} {x : Bs} (h : OwnB w base v x) (k : KxB base w w') : OwnB w' base v x := ownsRow_kxB h.out k
theorem FrE.kxB {w w' : World} {base : Nat} {v : Value} {x : Ent} (h : FrE w base v x) (k : KxB base w w') : FrE w' base v x := by
  obtain ⟨A, n, c, A', n', c', rfl, o1, o2, r1, r2, a, b, c, d, e, f⟩ := h
  have k1 := o1.kxB k
  have k2 := o2.kxB k
  exact ⟨A, n, _, A', n', _, rfl, k1, k2, Rd.of_OwnB k1 r1.1.symm, Rd.of_OwnB k2 r2.1.symm, a, b, c, d, e, f⟩
theorem OwnF.kxB {w w' : World} {base : Nat} {v : Value} {xs : List Ent} (h : OwnF w base v xs) (k : KxB base w w') : OwnF w' base v xs := by
  obtain ⟨hs, hl, ho, hr⟩ := h
  exact ⟨hs, hl, ownsRow_kxB ho k, fun i i1 i2 => (hr i i1 i2).kxB k⟩
/-- A part of a world: its blocks of cells, all in Z. -/
def Sub (Z : Nat → Prop) (wz w : World) : Prop := ∀ (k : Nat) (cs : Array Value) (t : TypeId) (fr : Nat × Nat), wz.heap[k]? = some (Obj.cells cs t fr) → Z k ∧ w.heap[k]? = some (Obj.cells cs t fr)
/-- Entries of the call's own, in blocks of Z. -/
def OwnFZ (Z : Nat → Prop) (w : World) (base : Nat) (v : Value) (xs : List Ent) : Prop := ∃ wz, Sub Z wz w ∧ OwnF wz base v xs
theorem OwnFZ.own {Z : Nat → Prop} {w : World} {base : Nat} {v : Value} {xs : List Ent} (h : OwnFZ Z w base v xs) : OwnF w base v xs := by
  obtain ⟨wz, hs, ho⟩ := h
  exact ho.kxB fun k cs t fr _ hk => (hs k cs t fr hk).2
theorem OwnFZ.move {Z Z' : Nat → Prop} {w w' : World} {base : Nat} {v : Value} {xs : List Ent} (h : OwnFZ Z w base v xs) (hm : ∀ (k : Nat) (cs : Array Value) (t : TypeId) (fr : Nat × Nat), Z k → w.heap[k]? = some (Obj.cells cs t fr) → t = 5 ∨ t = 47 → Z' k ∧ w'.heap[k]? = some (Obj.cells cs t fr)) : OwnFZ Z' w' base v xs := by
  obtain ⟨wz, hs, ho⟩ := h
  -- the blocks of bytes and of entries alone
  let keep : Obj → Obj := fun o => match o with
    | .cells cs t fr => if t = 5 ∨ t = 47 then .cells cs t fr else .deferred none
    | o => .deferred none
  refine ⟨{ wz with heap := wz.heap.map keep }, fun k cs t fr hk => ?_, ?_⟩
  · simp only [Array.getElem?_map] at hk
    cases ho : wz.heap[k]? with
    | none => rw [ho] at hk; cases hk
    | some o =>
      rw [ho] at hk
      simp only [Option.map_some, Option.some.injEq] at hk
      cases o with
      | cells cs' t' fr' =>
        simp only [keep] at hk
        split at hk
        · rename_i ht
          cases hk
          exact hm k cs t fr (hs k cs t fr ho).1 (hs k cs t fr ho).2 ht
        · cases hk
      | _ => simp [keep] at hk
  · have kx : ∀ (k : Nat) (cs : Array Value) (t : TypeId) (fr : Nat × Nat), t = 5 ∨ t = 47 → wz.heap[k]? = some (Obj.cells cs t fr) → ({ wz with heap := wz.heap.map keep } : World).heap[k]? = some (Obj.cells cs t fr) := by
      intro k cs t fr ht hk
      simp only [Array.getElem?_map, hk, Option.map_some, keep]
      rw [if_pos ht]
    have row : ∀ {e : TypeId} {size n : Nat} {v : Value} {ys : List Value}, e = 5 ∨ e = 47 → wz.ownsRow base e size v n ys → ({ wz with heap := wz.heap.map keep } : World).ownsRow base e size v n ys := by
      intro e size n v ys he ho
      refine ⟨ho.1, ?_⟩
      rcases ho.2 with hn | ⟨g, cap, cur, hv, hb, hg, rest⟩
      · exact .inl hn
      · exact .inr ⟨g, cap, cur, hv, hb, kx g cur e (0, 0) he hg, rest⟩
    obtain ⟨hs', hl, hr, hf⟩ := ho
    refine ⟨hs', hl, row (.inr rfl) hr, fun i i1 i2 => ?_⟩
    obtain ⟨A, n, c, A', n', c', e, o1, o2, r1, r2, a, b, c, d, e', f⟩ := hf i i1 i2
    have k1 : OwnB ({ wz with heap := wz.heap.map keep } : World) base _ _ := row (.inl rfl) o1
    have k2 : OwnB ({ wz with heap := wz.heap.map keep } : World) base _ _ := row (.inl rfl) o2
    exact ⟨A, n, _, A', n', _, e, k1, k2, Rd.of_OwnB k1 r1.1.symm, Rd.of_OwnB k2 r2.1.symm, a, b, c, d, e', f⟩
theorem OwnFZ.new {Z : Nat → Prop} {w : World} {base : Nat} {v : Value} {xs : List Ent} (h : OwnF w base v xs) (hz : ∀ k, base ≤ k → k < w.heap.size → Z k) : OwnFZ Z w base v xs := by
  refine ⟨{ w with heap := w.heap.mapIdx fun i o => if base ≤ i then o else .deferred none }, fun k cs t fr hk => ?_, h.kxB fun k cs t fr hb hk => ?_⟩
  · simp only [Array.getElem?_mapIdx] at hk
    cases ho : w.heap[k]? with
    | none => rw [ho] at hk; cases hk
    | some o =>
      rw [ho] at hk
      simp only [Option.map_some, Option.some.injEq] at hk
      split at hk
      · rename_i hb
        subst hk
        exact ⟨hz k hb (Array.getElem?_eq_some_iff.1 ho).1, rfl⟩
      · cases hk
  · simp only [Array.getElem?_mapIdx, hk, Option.map_some]
    rw [if_pos hb]


open Go.RowKit

def cellsB (h : Sl) (x : Bat) : List Value := [.int .i64 x.idx, slV h]
def rowB (hs : List Sl) (xs : List Bat) : List Value := (List.zipWith cellsB hs xs).flatten
theorem rowB_length {hs : List Sl} {xs : List Bat} (h : hs.length = xs.length) : (rowB hs xs).length = xs.length * 2 := by
  induction hs generalizing xs with
  | nil => cases xs <;> simp_all [rowB]
  | cons a hs ih =>
    cases xs with
    | nil => simp at h
    | cons x xs =>
      have := ih (xs := xs) (by simpa using h)
      simp only [rowB, List.zipWith_cons_cons, List.flatten_cons, List.length_append, List.length_cons] at this ⊢
      rw [this]
      simp [cellsB]
      omega
theorem rowB_append {hs ks : List Sl} {xs ys : List Bat} (h : hs.length = xs.length) : rowB (hs ++ ks) (xs ++ ys) = rowB hs xs ++ rowB ks ys := by
  unfold rowB
  rw [List.zipWith_append h, List.flatten_append]
theorem rowB_get {hs : List Sl} {xs : List Bat} (h : hs.length = xs.length) (k : Nat) (hk : k < xs.length) (j : Nat) (hj : j < 2) :
    (rowB hs xs)[k * 2 + j]? = (cellsB (hs[k]'(by omega)) xs[k])[j]? := by
  induction hs generalizing xs k with
  | nil => simp at h; omega
  | cons a hs ih =>
    cases xs with
    | nil => simp at hk
    | cons x xs =>
      have e : rowB (a :: hs) (x :: xs) = cellsB a x ++ rowB hs xs := rfl
      rw [e]
      cases k with
      | zero =>
        rw [Nat.zero_mul, Nat.zero_add, List.getElem?_append_left (by simp [cellsB]; omega)]
        rfl
      | succ k =>
        rw [List.getElem?_append_right (by simp [cellsB]; omega)]
        have := ih (xs := xs) (by simpa using h) k (by simpa using hk)
        have e2 : (k + 1) * 2 + j - (cellsB a x).length = k * 2 + j := by simp [cellsB]; omega
        rw [e2, this]
        rfl
theorem rowB_one {hs : List Sl} {xs : List Bat} : ∀ u ∈ rowB hs xs, u.oneCell' = true := by
  intro u hu
  unfold rowB at hu
  rw [List.mem_flatten] at hu
  obtain ⟨l, hl, hu⟩ := hu
  rw [List.mem_iff_getElem] at hl
  obtain ⟨i, hi, rfl⟩ := hl
  rw [List.getElem_zipWith] at hu
  simp [cellsB, slV] at hu
  rcases hu with rfl | rfl <;> rfl

/-- A row of batches of the call's own; E says what is known of each one's entries. -/
def OwnLB (E : Sl → List Ent → Prop) (w : World) (base : Nat) (v : Value) (xs : List Bat) : Prop :=
  ∃ hs : List Sl, hs.length = xs.length ∧ w.ownsRow base 24 2 v xs.length (rowB hs xs) ∧ ∀ k (h1 : k < hs.length) (h2 : k < xs.length), E hs[k] xs[k].es ∧ hs[k].n ≤ hs[k].c
theorem OwnLB.nil (E : Sl → List Ent → Prop) (w : World) (base : Nat) : OwnLB E w base (.slice none 0 0) [] := ⟨[], rfl, World.ownsRow_nil _ _ _ _, fun k h1 => absurd h1 (by simp)⟩
theorem OwnLB.imp {E E' : Sl → List Ent → Prop} {w : World} {base : Nat} {v : Value} {xs : List Bat} (h : OwnLB E w base v xs) (hE : ∀ a b, E a b → E' a b) : OwnLB E' w base v xs := by
  obtain ⟨hs, hl, ho, hr⟩ := h
  exact ⟨hs, hl, ho, fun k h1 h2 => ⟨hE _ _ (hr k h1 h2).1, (hr k h1 h2).2⟩⟩
theorem OwnLB.kx {E : Sl → List Ent → Prop} {T : TypeId} {w w' : World} {base : Nat} {v : Value} {xs : List Bat} (h : OwnLB E w base v xs) (k : Kx T w w') (ht : 24 ≠ T) : OwnLB E w' base v xs := by
  obtain ⟨hs, hl, ho, hr⟩ := h
  exact ⟨hs, hl, ownsRow_kx ho k ht, hr⟩
theorem OwnLB.ext {E : Sl → List Ent → Prop} {w w' : World} {base : Nat} {v : Value} {xs : List Bat} (h : OwnLB E w base v xs) (e : Ext w w') : OwnLB E w' base v xs := h.kx (T := 3) (Kx.of_ext e) (by decide)
theorem OwnLB.row {E : Sl → List Ent → Prop} {w : World} {base : Nat} {v : Value} {xs : List Bat} (h : OwnLB E w base v xs) : ∀ g, v.ownBlock = some g → base ≤ g ∧ ∃ cs fr, w.heap[g]? = some (.cells cs 24 fr) := by
  obtain ⟨hs, hl, ho, hr⟩ := h
  exact row_at ho
theorem OwnLB.mono {E : Sl → List Ent → Prop} {w : World} {base base' : Nat} {v : Value} {xs : List Bat} (h : OwnLB E w base v xs) (hb : base' ≤ base) : OwnLB E w base' v xs := by
  obtain ⟨hs, hl, ho, hr⟩ := h
  refine ⟨hs, hl, ⟨ho.1, ?_⟩, hr⟩
  rcases ho.2 with hn | ⟨g, cap, cur, e, hg, rest⟩
  · exact .inl hn
  · exact .inr ⟨g, cap, cur, e, Nat.le_trans hb hg, rest⟩
/-- As a slice that reads. -/
theorem OwnLB.form {E : Sl → List Ent → Prop} {w : World} {base : Nat} {v : Value} {xs : List Bat} (h : OwnLB E w base v xs) (hE : ∀ a b, E a b → RdL w a.A a.n b) (hB : xs.length ≤ B41) :
    ∃ A c, v = .slice A xs.length c ∧ xs.length ≤ c ∧ RdLB w A xs.length xs ∧ Hi base A xs.length := by
  obtain ⟨hs, hl, ho, hr⟩ := h
  rcases ho.2 with ⟨rfl, h0⟩ | ⟨g, cap, cur, rfl, hb, hg, hle, _⟩
  · obtain rfl : xs = [] := List.eq_nil_of_length_eq_zero h0
    exact ⟨none, 0, rfl, Nat.le_refl _, RdLB.nil _ _, fun h => absurd h (by simp)⟩
  · refine ⟨some ⟨g, 0, none⟩, cap, rfl, hle, ⟨rfl, hB, fun hn => ⟨g, 0, rfl, fun k hk => ?_⟩⟩, fun _ a e => by cases e; exact hb⟩
    have hk' : k < hs.length := by omega
    have c0 := World.ownsRow.cellAt ho (k * 2) (by omega)
    have c1 := World.ownsRow.cellAt ho (k * 2 + 1) (by omega)
    have g0 := rowB_get hl k hk 0 (by omega)
    have g1 := rowB_get hl k hk 1 (by omega)
    rw [Nat.add_zero] at g0
    refine ⟨hs[k].A, hs[k].n, hs[k].c, ?_, ?_, hE _ _ (hr k hk' hk).1, (hr k hk' hk).2⟩
    · rw [Nat.zero_add, c0, g0]; rfl
    · rw [Nat.zero_add, c1, g1]; rfl
theorem OwnLB.formN {E : Sl → List Ent → Prop} {w : World} {base : Nat} {v : Value} {xs : List Bat} (h : OwnLB E w base v xs) (hE : ∀ a b, E a b → RdL w a.A a.n b) (hB : xs.length ≤ B41) :
    ∃ A n c, v = .slice A n c ∧ n ≤ c ∧ RdLB w A n xs := by
  obtain ⟨A, c, e, h1, h2, _⟩ := h.form hE hB
  exact ⟨A, _, c, e, h1, h2⟩

theorem Try.infoBat : (Try.prog.info? 24).map (fun i => (i.zero, i.size, i.bytes)) = some (some (.agg #[.int .i64 0, .slice none 0 0]), 2, 32) := by kernel_rfl

theorem run_appLB {E : Sl → List Ent → Prop} (w : World) (ty : TypeId) (base : Nat) (v : Value) (xs : List Bat) (hown : OwnLB E w base v xs) (w0 : World) (t : TypeId) (h : Sl) (y : Bat) (hw : w = w0.alloc (.cells #[.int .i64 y.idx, slV h] t)) (hE : E h y.es) (hnc : h.n ≤ h.c)
    (g : Nat) (hg : w0.heap.size = g) (hsz : xs.length ≤ 1000000) (hbase : base ≤ w.heap.size) :
    ∃ v' w', (Builtin.append_ #[26, 26] ty #[v, .slice (some ⟨g, 0, none⟩) 1 1]).run Try.prog w = .ok v' w' ∧ OwnLB E w' base v' (xs ++ [y]) ∧ w.grownBy w' v.ownBlock ∧ Kx 24 w w' ∧ (∀ k, v'.ownBlock = some k → v.ownBlock = some k ∨ w.heap.size ≤ k) := by
  obtain ⟨i0, hi, hz0, hz1, hz2⟩ := info_parts Try.infoBat
  obtain ⟨hs, hl, ho, hr⟩ := hown
  subst hg
  have hnews : ∀ j u, (rowB [h] [y])[j]? = some u → w.cell? ((⟨w0.heap.size, 0, none⟩ : Addr).add j) = some u := by
    intro j u hj
    have hb := heap_alloc_new w0 (.cells #[.int .i64 y.idx, slV h] t)
    have e2 : (⟨w0.heap.size, 0, none⟩ : Addr).add j = ⟨w0.heap.size, j, none⟩ := by unfold Addr.add; split <;> simp_all
    rw [e2, hw]
    simp only [World.cell?, hb]
    simp [rowB, cellsB] at hj ⊢
    match j with
    | 0 => simpa using hj
    | 1 => simpa using hj
    | j + 2 => simp at hj
  obtain ⟨v', w', hrun, h1, h2, h3⟩ := run_append_own (P := Try.prog) w base 26 ty 24 i0 _ 2 32 Try.underlying26 hi hz0 hz1 hz2 rfl (by decide) v xs.length (rowB hs xs) ho ⟨w0.heap.size, 0, none⟩ 1 1 (rowB [h] [y]) rfl hnews
    rowB_one (by unfold maxLen; omega) (by omega) hbase
  have h4 := run_append_blk (P := Try.prog) w base 26 ty 24 i0 _ 2 32 Try.underlying26 hi hz0 hz1 hz2 rfl (by decide) v xs.length (rowB hs xs) ho ⟨w0.heap.size, 0, none⟩ 1 1 (rowB [h] [y]) rfl hnews
    rowB_one (by unfold maxLen; omega) (by omega) hrun
  refine ⟨v', w', hrun, ⟨hs ++ [h], by simp [hl], ?_, fun k k1 k2 => ?_⟩, h2, Kx.of_row h2 ho, h4⟩
  · rw [rowB_append hl, List.length_append]; exact h1
  · by_cases hk : k < hs.length
    · rw [List.getElem_append_left hk, List.getElem_append_left (by omega)]
      exact hr k hk (by omega)
    · have e : k = hs.length := by simp at k1; omega
      subst e
      rw [List.getElem_append_right (Nat.le_refl _), List.getElem_append_right (by omega)]
      have e2 : hs.length - xs.length = 0 := by omega
      simp only [Nat.sub_self, e2, List.getElem_cons_zero]
      exact ⟨hE, hnc⟩
theorem wp_appLB {E : Sl → List Ent → Prop} {ops : Array Oper} {rest : List Oper} {o : Oper} {a : Act} {w : World} {Q : Exit → Act → World → Prop} (hgd : o.guard = none) (s x : Operand)
    (ho : o.op = .call { callee := .builtin .append, args := #[s, x], argTypes := #[26, 26] })
    (base : Nat) (v : Value) (xs : List Bat) (hsv : a.eval s = v) (hown : OwnLB E w base v xs) (w0 : World) (t : TypeId) (h : Sl) (y : Bat) (hw : w = w0.alloc (.cells #[.int .i64 y.idx, slV h] t)) (hE : E h y.es) (hnc : h.n ≤ h.c)
    (g : Nat) (hg : w0.heap.size = g) (hx : a.eval x = .slice (some ⟨g, 0, none⟩) 1 1) (hsz : xs.length ≤ 1000000) (hbase : base ≤ w.heap.size)
    (hk : ∀ v' w', OwnLB E w' base v' (xs ++ [y]) → Kx 24 w w' → w.grownBy w' v.ownBlock → wpList Try.prog ops Q rest (a.put o.dst v') w') : wpList Try.prog ops Q (o :: rest) a w := by
  refine wpList_plain hgd fun K hK => ?_
  obtain ⟨v', w', hrun, h1, h2, h3, h4⟩ := run_appLB w o.type base v xs hown w0 t h y hw hE hnc g hg hsz hbase
  unfold Oper.wp
  simp [execOp, ho, resolve, invoke, builtin, hsv, hx, hrun, Result.andThen]
  exact hK _ _ (hk v' w' h1 h3 h2)

/-- The same within a fence. -/
theorem wpi_appLB {F : Fence} {n : Nat} {E : Sl → List Ent → Prop} {ops : Array Oper} {rest : List Oper} {o : Oper} {a : Act} {w : World} {Q : Exit → Act → World → Prop} (hgd : o.guard = none) (s x : Operand)
    (ho : o.op = .call { callee := .builtin .append, args := #[s, x], argTypes := #[26, 26] })
    (base : Nat) (v : Value) (xs : List Bat) (hsv : a.eval s = v) (hown : OwnLB E w base v xs) (w0 : World) (t : TypeId) (h : Sl) (y : Bat) (hw : w = w0.alloc (.cells #[.int .i64 y.idx, slV h] t)) (hE : E h y.es) (hnc : h.n ≤ h.c)
    (g : Nat) (hg : w0.heap.size = g) (hx : a.eval x = .slice (some ⟨g, 0, none⟩) 1 1) (hsz : xs.length ≤ 1000000) (hbase : base ≤ w.heap.size)
    (hk : ∀ v' w', OwnLB E w' base v' (xs ++ [y]) → Kx 24 w w' → w.grownBy w' v.ownBlock → (∀ k, v'.ownBlock = some k → v.ownBlock = some k ∨ w.heap.size ≤ k) → wpListIn F n Try.prog ops Q rest (a.put o.dst v') w') : wpListIn F n Try.prog ops Q (o :: rest) a w := by
  refine wpListIn_plain hgd fun K hK => ?_
  obtain ⟨v', w', hrun, h1, h2, h3, h4⟩ := run_appLB w o.type base v xs hown w0 t h y hw hE hnc g hg hsz hbase
  unfold Oper.wpIn
  refine ⟨?_, ?_⟩
  · simp [Oper.about, ho, resolve, Target.leads, Sem.run_pure]
  · rw [Oper.semAt_plain F _ _ (by rw [ho]; intro c hc'; cases hc')]
    simp [execOp, ho, resolve, invoke, builtin, hsv, hx, hrun, Result.andThen]
    exact hK _ _ (hk v' w' h1 h3 h2 h4)

/-- A row of batches that is all the call's own. -/
def OwnLF (w : World) (base : Nat) (v : Value) (xs : List Bat) : Prop := OwnLB (fun h es => OwnF w base (slV h) es ∧ es.length ≤ 1000000) w base v xs
theorem OwnLF.nil (w : World) (base : Nat) : OwnLF w base (.slice none 0 0) [] := OwnLB.nil _ _ _
theorem OwnLF.kx {T : TypeId} {w w' : World} {base : Nat} {v : Value} {xs : List Bat} (h : OwnLF w base v xs) (k : Kx T w w') (h1 : 24 ≠ T) (h2 : 47 ≠ T) (h3 : 5 ≠ T) : OwnLF w' base v xs :=
  (OwnLB.kx h k h1).imp fun a b e => ⟨e.1.kx k h2 h3, e.2⟩
theorem OwnLF.ext {w w' : World} {base : Nat} {v : Value} {xs : List Bat} (h : OwnLF w base v xs) (e : Ext w w') : OwnLF w' base v xs := h.kx (T := 3) (Kx.of_ext e) (by decide) (by decide) (by decide)
theorem OwnLF.low {w : World} {base base' : Nat} {v : Value} {xs : List Bat} (h : OwnLF w base v xs) (hb : base' ≤ base) : OwnLF w base' v xs := (OwnLB.mono h hb).imp fun a b e => ⟨e.1.low hb, e.2⟩
theorem OwnLF.rd {w : World} {base : Nat} (a : Sl) (b : List Ent) (h : OwnF w base (slV a) b ∧ b.length ≤ 1000000) : RdL w a.A a.n b := by
  obtain ⟨A, n, c, e, _, hr, _⟩ := h.1.ownL.formN (by have := h.2; unfold B41; omega)
  unfold slV at e
  cases e
  exact hr
theorem OwnLF.formN {w : World} {base : Nat} {v : Value} {xs : List Bat} (h : OwnLF w base v xs) (hB : xs.length ≤ B41) : ∃ A n c, v = .slice A n c ∧ n ≤ c ∧ RdLB w A n xs := OwnLB.formN h OwnLF.rd hB
theorem OwnLB.lastB {E : Sl → List Ent → Prop} {w : World} {base : Nat} {v : Value} {xs : List Bat} {x : Bat} (h : OwnLB E w base v xs) (hx : xs.getLast? = some x) : ∃ g c, v = .slice (some ⟨g, 0, none⟩) xs.length c ∧ base ≤ g ∧ xs.length ≤ c ∧ 0 < xs.length ∧ w.cell? ⟨g, (xs.length - 1) * 2, none⟩ = some (.int .i64 x.idx) := by
  obtain ⟨hs, hl, ho, hr⟩ := h
  have hn : 0 < xs.length := by
    cases xs with
    | nil => cases hx
    | cons a xs => simp
  rcases ho.2 with ⟨rfl, h0⟩ | ⟨g, cap, cur, rfl, hb, hg, hle, _⟩
  · omega
  · refine ⟨g, cap, rfl, hb, hle, hn, ?_⟩
    rw [World.ownsRow.cellAt ho _ (by omega)]
    have g0 := rowB_get hl (xs.length - 1) (by omega) 0 (by omega)
    rw [Nat.add_zero] at g0
    rw [g0]
    have : xs[xs.length - 1] = x := by
      rw [List.getLast?_eq_getElem?, List.getElem?_eq_getElem (by omega)] at hx
      exact Option.some.inj hx
    simp [cellsB, this]
theorem wp_appLF {ops : Array Oper} {rest : List Oper} {o : Oper} {a : Act} {w : World} {Q : Exit → Act → World → Prop} (hgd : o.guard = none) (s x : Operand)
    (ho : o.op = .call { callee := .builtin .append, args := #[s, x], argTypes := #[26, 26] })
    (base : Nat) (v : Value) (xs : List Bat) (hsv : a.eval s = v) (w0 : World) (hown : OwnLF w0 base v xs) (t : TypeId) (h : Sl) (y : Bat) (hw : w = w0.alloc (.cells #[.int .i64 y.idx, slV h] t)) (hE : OwnF w0 base (slV h) y.es ∧ y.es.length ≤ 1000000) (hnc : h.n ≤ h.c)
    (g : Nat) (hg : w0.heap.size = g) (hx : a.eval x = .slice (some ⟨g, 0, none⟩) 1 1) (hsz : xs.length ≤ 1000000) (hbase : base ≤ w0.heap.size)
    (hk : ∀ v' w', OwnLF w' base v' (xs ++ [y]) → Kx 24 w0 w' → w.grownBy w' v.ownBlock → wpList Try.prog ops Q rest (a.put o.dst v') w') : wpList Try.prog ops Q (o :: rest) a w := by
  have e0 : Ext w0 w := by rw [hw]; exact (by with_reducible (repeat (first | exact Ext.rfl_ _ | assumption | refine Ext.drew ?_ | refine Ext.drewN ?_ _ | refine Ext.alloc ?_ _ | refine Ext.trans ?_ (by assumption))))
  refine wp_appLB hgd s x ho base v xs hsv ((OwnLF.ext hown e0 : OwnLB _ _ _ _ _)) w0 t h y hw ⟨hE.1.ext e0, hE.2⟩ hnc g hg hx hsz (by have := e0.size; omega) ?_
  intro v' w' h1 h2 h3
  exact hk v' w' (h1.imp fun a b e => ⟨e.1.kx h2 (by decide) (by decide), e.2⟩) (Kx.trans (Kx.of_ext e0) h2) h3

end Go.Proofs.Ythdahmicjlplcaa
