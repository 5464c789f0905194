/- Where an append's row lies: where it lay, or new. Conditions: none. -/
import Derived.Test.YtmmoopioiheleaaKx
namespace Go.Proofs.Ytmmoopioiheleaa
set_option linter.unusedSimpArgs false
set_option linter.unusedVariables false
open Go.RowKit

theorem run_append_blk {P : Program} (w : World) (base : Nat) (t ty e : TypeId) (i : TypeInfo) (z : Value) (size bytes : Nat) (ht : P.underlying t = some (.slice e)) (hi : P.info? e = some i) (hz : i.zero = some z)
    (hsize : i.size = size) (hby : i.bytes = bytes) (hzs : z.cells.size = size) (hsz : 0 < size)
    (v : Value) (n : Nat) (xs : List Value) (hown : w.ownsRow base e size v n xs)
    (a : Addr) (m c : Nat) (news : List Value) (hl : news.length = m * size) (hnews : ∀ j u, news[j]? = some u → w.cell? (a.add j) = some u) (h1 : ∀ u ∈ news, u.oneCell' = true)
    (h63 : n + m ≤ maxLen) (hbytes : (n + m) * bytes ≤ 140737488355328) {v' : Value} {w' : World} (hr : (Builtin.append_ #[t, t] ty #[v, .slice (some a) m c]).run P w = .ok v' w') :
    ∀ k, v'.ownBlock = some k → v.ownBlock = some k ∨ w.heap.size ≤ k := by
  rcases hown.2 with ⟨rfl, rfl⟩ | ⟨g, cap, cur, rfl, hbg, hg, hnc, hcm, hcs, htake⟩
  · have hx : xs = [] := List.eq_nil_of_length_eq_zero (by simpa using hown.1)
    subst hx
    obtain ⟨v2, w2, h2, h3, _⟩ := run_append_own (P := P) w w.heap.size t ty e i z size bytes ht hi hz hsize hby hzs hsz (.slice none 0 0) 0 [] (World.ownsRow_nil _ _ _ _) a m c news hl hnews h1 h63 hbytes (Nat.le_refl _)
    rw [h2] at hr
    cases hr
    exact fun k hk => .inr (h3.lt k hk).1
  · subst hsize
    subst hby
    by_cases hroom : n + m ≤ cap
    · have hfit : n * i.size + news.length ≤ cur.size := by rw [hl, hcs, ← Nat.add_mul]; exact Nat.mul_le_mul_right _ hroom
      have h2 := run_append_room (P := P) w t ty e i ht hi g n cap cur hg a m c news hl hnews h1 hroom hfit
      rw [h2] at hr
      cases hr
      exact fun k hk => .inl (by simpa [Value.ownBlock] using hk)
    · have holds : ∀ j u, xs[j]? = some u → w.cell? ((⟨g, 0, none⟩ : Addr).add j) = some u := hown.cells (g := g) rfl
      have hsmall : n + m ≤ 9223372036854775807 := by simp only [maxLen] at h63; omega
      have h2 := run_append_grow (P := P) w t ty e i z ht hi hz ⟨g, 0, none⟩ n cap xs hown.1 holds a m c news hl hnews (by omega) (by omega) (growslice_fits (by omega) hbytes)
      rw [h2] at hr
      cases hr
      exact fun k hk => .inr (by simp [Value.ownBlock] at hk; omega)

/-- Blocks from 'base' on stay. -/
def KxB (base : Nat) (w w' : World) : Prop := ∀ (k : Nat) (cs : Array Value) (t : TypeId) (fr : Nat × Nat), base ≤ k → w.heap[k]? = some (Obj.cells cs t fr) → w'.heap[k]? = some (Obj.cells cs t fr)
theorem ownsRow_kxB {e : TypeId} {w w' : World} {base size n : Nat} {v : Value} {xs : List Value} (ho : w.ownsRow base e size v n xs) (k : KxB base w w') : w'.ownsRow base e size v n xs := by
  refine ⟨ho.1, ?_⟩
  rcases ho.2 with hn | ⟨g, cap, cur, hv, hb, hg, rest⟩
  · exact .inl hn
  · exact .inr ⟨g, cap, cur, hv, hb, k g cur e (0, 0) hb hg, rest⟩
theorem OwnB.kxB {w w' : World} {base : Nat} {v : Value} {x : Bs} (h : OwnB w base v x) (k : KxB base w w') : OwnB w' base v x := ownsRow_kxB h.out k
theorem FrE.kxB {w w' : World} {base : Nat} {v : Value} {x : Ent} (h : FrE w base v x) (k : KxB base w w') : FrE w' base v x := by
  obtain ⟨A, n, c, A', n', c', rfl, o1, o2, r1, r2, a, b, c, d, e, f⟩ := h
  have k1 := o1.kxB k
  have k2 := o2.kxB k
  exact ⟨A, n, _, A', n', _, rfl, k1, k2, Rd.of_OwnB k1 r1.1.symm, Rd.of_OwnB k2 r2.1.symm, a, b, c, d, e, f⟩
theorem OwnF.kxB {w w' : World} {base : Nat} {v : Value} {xs : List Ent} (h : OwnF w base v xs) (k : KxB base w w') : OwnF w' base v xs := by
  obtain ⟨hs, hl, ho, hr⟩ := h
  exact ⟨hs, hl, ownsRow_kxB ho k, fun i i1 i2 => (hr i i1 i2).kxB k⟩
/-- A part of a world: its blocks of cells, all in Z. -/
def Sub (Z : Nat → Prop) (wz w : World) : Prop := ∀ (k : Nat) (cs : Array Value) (t : TypeId) (fr : Nat × Nat), wz.heap[k]? = some (Obj.cells cs t fr) → Z k ∧ w.heap[k]? = some (Obj.cells cs t fr)
/-- Entries of the call's own, in blocks of Z. -/
def OwnFZ (Z : Nat → Prop) (w : World) (base : Nat) (v : Value) (xs : List Ent) : Prop := ∃ wz, Sub Z wz w ∧ OwnF wz base v xs
theorem OwnFZ.own {Z : Nat → Prop} {w : World} {base : Nat} {v : Value} {xs : List Ent} (h : OwnFZ Z w base v xs) : OwnF w base v xs := by
  obtain ⟨wz, hs, ho⟩ := h
  exact ho.kxB fun k cs t fr _ hk => (hs k cs t fr hk).2
theorem OwnFZ.move {Z Z' : Nat → Prop} {w w' : World} {base : Nat} {v : Value} {xs : List Ent} (h : OwnFZ Z w base v xs) (hm : ∀ (k : Nat) (cs : Array Value) (t : TypeId) (fr : Nat × Nat), Z k → w.heap[k]? = some (Obj.cells cs t fr) → t = 5 ∨ t = 37 → Z' k ∧ w'.heap[k]? = some (Obj.cells cs t fr)) : OwnFZ Z' w' base v xs := by
  obtain ⟨wz, hs, ho⟩ := h
  -- the blocks of bytes and of entries alone
  let keep : Obj → Obj := fun o => match o with
    | .cells cs t fr => if t = 5 ∨ t = 37 then .cells cs t fr else .deferred none
    | o => .deferred none
  refine ⟨{ wz with heap := wz.heap.map keep }, fun k cs t fr hk => ?_, ?_⟩
  · simp only [Array.getElem?_map] at hk
    cases ho : wz.heap[k]? with
    | none => rw [ho] at hk; cases hk
    | some o =>
      rw [ho] at hk
      simp only [Option.map_some, Option.some.injEq] at hk
      cases o with
      | cells cs' t' fr' =>
        simp only [keep] at hk
        split at hk
        · rename_i ht
          cases hk
          exact hm k cs t fr (hs k cs t fr ho).1 (hs k cs t fr ho).2 ht
        · cases hk
      | _ => simp [keep] at hk
  · have kx : ∀ (k : Nat) (cs : Array Value) (t : TypeId) (fr : Nat × Nat), t = 5 ∨ t = 37 → wz.heap[k]? = some (Obj.cells cs t fr) → ({ wz with heap := wz.heap.map keep } : World).heap[k]? = some (Obj.cells cs t fr) := by
      intro k cs t fr ht hk
      simp only [Array.getElem?_map, hk, Option.map_some, keep]
      rw [if_pos ht]
    have row : ∀ {e : TypeId} {size n : Nat} {v : Value} {ys : List Value}, e = 5 ∨ e = 37 → wz.ownsRow base e size v n ys → ({ wz with heap := wz.heap.map keep } : World).ownsRow base e size v n ys := by
      intro e size n v ys he ho
      refine ⟨ho.1, ?_⟩
      rcases ho.2 with hn | ⟨g, cap, cur, hv, hb, hg, rest⟩
      · exact .inl hn
      · exact .inr ⟨g, cap, cur, hv, hb, kx g cur e (0, 0) he hg, rest⟩
    obtain ⟨hs', hl, hr, hf⟩ := ho
    refine ⟨hs', hl, row (.inr rfl) hr, fun i i1 i2 => ?_⟩
    obtain ⟨A, n, c, A', n', c', e, o1, o2, r1, r2, a, b, c, d, e', f⟩ := hf i i1 i2
    have k1 : OwnB ({ wz with heap := wz.heap.map keep } : World) base _ _ := row (.inl rfl) o1
    have k2 : OwnB ({ wz with heap := wz.heap.map keep } : World) base _ _ := row (.inl rfl) o2
    exact ⟨A, n, _, A', n', _, e, k1, k2, Rd.of_OwnB k1 r1.1.symm, Rd.of_OwnB k2 r2.1.symm, a, b, c, d, e', f⟩
theorem OwnFZ.new {Z : Nat → Prop} {w : World} {base : Nat} {v : Value} {xs : List Ent} (h : OwnF w base v xs) (hz : ∀ k, base ≤ k → k < w.heap.size → Z k) : OwnFZ Z w base v xs := by
  refine ⟨{ w with heap := w.heap.mapIdx fun i o => if base ≤ i then o else .deferred none }, fun k cs t fr hk => ?_, h.kxB fun k cs t fr hb hk => ?_⟩
  · simp only [Array.getElem?_mapIdx] at hk
    cases ho : w.heap[k]? with
    | none => rw [ho] at hk; cases hk
    | some o =>
      rw [ho] at hk
      simp only [Option.map_some, Option.some.injEq] at hk
      split at hk
      · rename_i hb
        subst hk
        exact ⟨hz k hb (Array.getElem?_eq_some_iff.1 ho).1, rfl⟩
      · cases hk
  · simp only [Array.getElem?_mapIdx, hk, Option.map_some]
    rw [if_pos hb]

end Go.Proofs.Ytmmoopioiheleaa
