/- An argument of type api.Entry that came in: it reads as an entry. Conditions: none. -/
import Derived.Test.YtpohmoakilioiaaList
import Derived.Deep.Slices
import Derived.Deep.Fields
import Derived.ChangeSame
import Derived.ProofKit
import Derived.OpenShut
import Derived.SizedLaws
import Derived.Lib.SmallJoins
namespace Go.Proofs.Ytpohmoakilioiaa
set_option linter.unusedSimpArgs false
set_option linter.unusedVariables false
set_option maxRecDepth 100000
open Go.RowKit Go.ChangeShapes Go.WideShapes Go.ChangeAt Go.Joins Go.Deep

section
variable {H : Type} {enc : TypeId × Value → H} {W : World} {base : Nat} {spare : Nat → Bool} {held : Bool}

/-- The bytes of a row of numbers. -/
def bytesOfInts (zs : List Int) : Bs := zs.map fun z => UInt8.ofNat z.toNat

theorem rd_of_trod {n : Nat} {v : Value} {y : DataW H × List MemPlace} (h : DataW.trod enc Try.prog W base spare held n 22 [v] = some y)
    (hw : ∀ k ∈ y.1.weights Try.prog 22, k ≤ reachBytes) : ∃ A m c x, v = .slice A m c ∧ Rd W A m x ∧ m ≤ c ∧ m ≤ B47 := by
  rcases open_ints Try.underlying22 Try.underlying5 (by kernel_rfl) h with ⟨hcs, _⟩ | ⟨a, l, c, zs, hcs, _, hl, hm, hz, hx, hcell, hwz⟩
  · simp at hcs
    exact ⟨none, 0, 0, [], hcs, Rd.nil _ _, Nat.le_refl _, Nat.zero_le _⟩
  · simp at hcs
    have hll : l ≤ zs.length := by rw [hz]; split <;> omega
    refine ⟨some a, l, c, bytesOfInts (zs.take l), hcs, ⟨by simp [bytesOfInts]; omega, fun hn => ?_⟩, hl, ?_⟩
    · obtain ⟨b, o, spot⟩ := a
      have hc0 := hcell 0 (by omega)
      have hsp : spot = none := by simpa [Addr.add] using World.cell?_spot hc0
      subst hsp
      refine ⟨b, o, rfl, fun j hj => ?_⟩
      have hj2 : j < zs.length := by simp [bytesOfInts] at hj; omega
      have hcj := hcell j hj2
      have hwj := hwz (zs[j]) (List.getElem_mem hj2)
      have e2 : (⟨b, o, none⟩ : Addr).add j = ⟨b, o + j, none⟩ := by unfold Addr.add; split <;> simp_all
      rw [e2] at hcj
      rw [hcj]
      have hwj2 : (0 : Int) ≤ zs[j] ∧ zs[j] ≤ 255 := by simpa [Lit.wf, IntKind.min, IntKind.max, IntKind.signed, IntKind.bits] using hwj
      clear hwj
      simp [bytesOfInts, List.getD, List.getElem?_eq_getElem hj2]
      omega
    · rw [hx] at hw
      have := hw ((l + (zs.length - l)) * Try.prog.bytesOf 5) (by simp [DataW.weights, Try.underlying22, lits]; left; rw [Nat.min_eq_left hll])
      have hb : Try.prog.bytesOf 5 = 1 := by kernel_rfl
      rw [hb] at this
      unfold reachBytes at this
      unfold B47
      omega

set_option maxRecDepth 100000 in
theorem rdb_of_Trod {r : Reach} {b0 : Nat} {v : Value} {d : DataW H} {p : List MemPlace} (hv : Value.okWide Try.prog W r b0 22 v) (h : DataW.Trod enc Try.prog W base spare held 22 v d p)
    (hw : ∀ k ∈ d.weights Try.prog 22, k ≤ reachBytes) : ∃ A m c x, v = .slice A m c ∧ Rd W A m x ∧ m ≤ c ∧ m ≤ B47 := by
  obtain ⟨a, l, c, rfl⟩ := okWide_slice Try.underlying22 hv
  obtain ⟨n, hn⟩ := h
  exact rd_of_trod hn hw

set_option maxRecDepth 100000 in
theorem ent_of_trod {r : Reach} {b0 : Nat} {v : Value} {d : DataW H} {p : List MemPlace} (hv : Value.okWide Try.prog W r b0 25 v) (h : DataW.Trod enc Try.prog W base spare held 25 v d p)
    (hw : ∀ k ∈ d.weights Try.prog 25, k ≤ reachBytes) : ∃ x, RdE W v x := by
  obtain ⟨v0, v1, v2, v3, y0, y1, y2, y3, n, rfl, rfl, rfl, t0, t1, t2, t3⟩ := open_agg4 Try.underlying25 (by kernel_rfl) (by kernel_rfl) hv h
  have hw0 : ∀ k ∈ y0.1.weights Try.prog 22, k ≤ reachBytes := fun k hk => hw k (by simp [DataW.weights, DataW.weightsEach, Try.underlying25, hk])
  have hw3 : ∀ k ∈ y3.1.weights Try.prog 22, k ≤ reachBytes := fun k hk => hw k (by simp [DataW.weights, DataW.weightsEach, Try.underlying25, hk])
  obtain ⟨A, m, c, x0, rfl, r0, l0, b0⟩ := rd_of_trod t0 hw0
  obtain ⟨A', m', c', x3, rfl, r3, l3, b3⟩ := rd_of_trod t3 hw3
  obtain ⟨s1, e1, _, _⟩ := DataW.trod_int Try.underlying2 t1
  obtain ⟨s2, e2, _, _⟩ := DataW.trod_int Try.underlying23 t2
  simp at e1 e2
  subst e1 e2
  exact ⟨⟨x0, s1, s2, x3⟩, A, m, c, A', m', c', rfl, r0, r3, l0, b0, l3, b3⟩

theorem open_slice_fields {P : Program} {w : World} {t e : TypeId} {fs : Array Field} {fuel : Nat} {cs : List Value} {x : DataW H × List MemPlace} (ht : P.underlying t = some (.slice e)) (he : P.underlying e = some (.struct fs))
    (hone : oneCellFields P fs = true) (hC : P.cellsOf e = fs.size) (h : DataW.trod enc P w base spare held fuel t cs = some x) :
    (cs = [.slice none 0 0] ∧ x = (.nil, [])) ∨
    ∃ (a : Addr) (len cap m : Nat) (D : Nat → DataW H) (Pl : Nat → List MemPlace), cs = [.slice (some a) len cap] ∧ base ≤ a.block ∧ len ≤ cap ∧ cap ≤ maxLen ∧ m = (if spare a.block then cap else len) ∧
      x = (.slice ((List.range len).map D) ((List.range (m - len)).map fun j => D (len + j)), MemPlace.row a (m * fs.size) ++ (List.range m).flatMap Pl) ∧
      ∀ i, i < m → ∃ (ys : List (DataW H × List MemPlace)) (n : Nat), D i = .agg (ys.map (·.1)) ∧ Pl i = ys.flatMap (·.2) ∧ ys.length = fs.size ∧
        ∀ (j : Nat) (f : Field), fs[j]? = some f → ∃ (v : Value) (y : DataW H × List MemPlace), w.cell? (a.add (i * fs.size + j)) = some v ∧ ys[j]? = some y ∧ DataW.trod enc P w base spare held n f.type [v] = some y := by
  rcases open_slice ht h with h0 | ⟨a, len, cap, m, n, D, Pl, hcs, hb, hl, hm, hmm, hx, hi⟩
  · exact .inl h0
  · refine .inr ⟨a, len, cap, m, D, Pl, hcs, hb, hl, hm, hmm, by rw [hC] at hx; exact hx, fun i him => ?_⟩
    obtain ⟨cs', hc, ht'⟩ := hi i him
    rw [hC] at hc
    obtain ⟨ys, n', hn', hy, hlen, hyl, hf⟩ := DataW.trod_struct he ht'
    obtain ⟨_, hcl, hat⟩ := World.cells?_some hc
    simp only [Prod.mk.injEq] at hy
    refine ⟨ys, n', hy.1, hy.2, hyl, fun j f hj => ?_⟩
    obtain ⟨ho, hk⟩ := hone_of hone j f hj
    have hjl : j < fs.size := (Array.getElem?_eq_some_iff.1 hj).1
    have hcell := hat j hjl
    have hv : cs'[j]? = some (cs'[j]'(by omega)) := List.getElem?_eq_getElem (by omega)
    have h1 := hf j f hj
    rw [ho, hk] at h1
    have hone' : (cs'.drop j).take 1 = [cs'[j]'(by omega)] := by
      rw [List.drop_eq_getElem_cons (by omega)]
      rfl
    rw [hone'] at h1
    have hys : ys[j]? = some (ys[j]'(by omega)) := List.getElem?_eq_getElem (by omega)
    refine ⟨_, _, ?_, hys, h1.trans hys⟩
    rw [← Go.Deep.add_add, hcell, hv]

/-- One entry read off its four cells. -/
theorem ent_of_cells {n : Nat} {v0 v1 v2 v3 : Value} {y0 y1 y2 y3 : DataW H × List MemPlace} (t0 : DataW.trod enc Try.prog W base spare held n 22 [v0] = some y0) (t1 : DataW.trod enc Try.prog W base spare held n 2 [v1] = some y1)
    (t2 : DataW.trod enc Try.prog W base spare held n 23 [v2] = some y2) (t3 : DataW.trod enc Try.prog W base spare held n 22 [v3] = some y3)
    (hw0 : ∀ k ∈ y0.1.weights Try.prog 22, k ≤ reachBytes) (hw3 : ∀ k ∈ y3.1.weights Try.prog 22, k ≤ reachBytes) :
    ∃ A m c A' m' c' x, v0 = .slice A m c ∧ v1 = .int .i64 x.seq ∧ v2 = .int .i64 x.kind ∧ v3 = .slice A' m' c' ∧ RdE W (.agg #[.slice A m c, .int .i64 x.seq, .int .i64 x.kind, .slice A' m' c']) x := by
  obtain ⟨A, m, c, x0, rfl, r0, l0, b0⟩ := rd_of_trod t0 hw0
  obtain ⟨A', m', c', x3, rfl, r3, l3, b3⟩ := rd_of_trod t3 hw3
  obtain ⟨s1, e1, _, _⟩ := DataW.trod_int Try.underlying2 t1
  obtain ⟨s2, e2, _, _⟩ := DataW.trod_int Try.underlying23 t2
  simp at e1 e2
  subst e1 e2
  exact ⟨A, m, c, A', m', c', ⟨x0, s1, s2, x3⟩, rfl, rfl, rfl, rfl, A, m, c, A', m', c', rfl, r0, r3, l0, b0, l3, b3⟩

theorem exists_list {α : Type} {P : Nat → α → Prop} (n : Nat) (h : ∀ i, i < n → ∃ x, P i x) : ∃ xs : List α, xs.length = n ∧ ∀ i (hi : i < xs.length), P i xs[i] := by
  induction n with
  | zero => exact ⟨[], rfl, fun i hi => absurd hi (by simp)⟩
  | succ n ih =>
    obtain ⟨xs, hl, hx⟩ := ih fun i hi => h i (by omega)
    obtain ⟨x, hx'⟩ := h n (by omega)
    refine ⟨xs ++ [x], by simp [hl], fun i hi => ?_⟩
    by_cases hc : i < xs.length
    · rw [List.getElem_append_left hc]; exact hx i hc
    · have : i = n := by simp at hi; omega
      subst this
      rw [List.getElem_append_right (by omega)]
      simpa [hl] using hx'

theorem weights_mem_all {P : Program} {e : TypeId} {d : DataW H} {k : Nat} {l : List (DataW H)} (hd : d ∈ l) (hk : k ∈ d.weights P e) : k ∈ DataW.weightsAll P e l := by
  induction l with
  | nil => cases hd
  | cons y r ih =>
    simp only [DataW.weightsAll, List.mem_append]
    rcases List.mem_cons.1 hd with rfl | hd
    · exact .inl hk
    · exact .inr (ih hd)

theorem add_none (b o i : Nat) : (⟨b, o, none⟩ : Addr).add i = ⟨b, o + i, none⟩ := by unfold Addr.add; split <;> simp_all

set_option maxRecDepth 100000 in
theorem rdl_of_trod {n : Nat} {v : Value} {y : DataW H × List MemPlace} (hn : DataW.trod enc Try.prog W base spare held n 42 [v] = some y)
    (hw : ∀ k ∈ y.1.weights Try.prog 42, k ≤ reachBytes) : ∃ A m c xs, v = .slice A m c ∧ RdL W A m xs ∧ m ≤ c := by
  rcases open_slice_fields Try.underlying42 Try.underlying25 (by kernel_rfl) (by kernel_rfl) hn with ⟨hcs, _⟩ | ⟨a, l0, c0, m, D, Pl, hcs, hb, hl, hm, hmm, hx, hi⟩
  · simp at hcs
    exact ⟨none, 0, 0, [], hcs, RdL.nil _ _, Nat.le_refl _⟩
  · simp at hcs
    have hlm : l0 ≤ m := by rw [hmm]; split <;> omega
    have hx1 := congrArg Prod.fst hx
    simp only at hx1
    have hbytes : Try.prog.bytesOf 25 = 64 := by kernel_rfl
    have hreach : (l0 + (m - l0)) * 64 ≤ reachBytes := by
      have := hw ((l0 + (m - l0)) * 64) (by rw [hx1]; simp [DataW.weights, Try.underlying42, hbytes])
      exact this
    have hB : l0 ≤ B41 := by unfold reachBytes at hreach; unfold B41; omega
    have hd : ∀ i, i < l0 → ∀ k ∈ (D i).weights Try.prog 25, k ≤ reachBytes := fun i hi k hk => hw k (by
      rw [hx1]
      simp only [DataW.weights, Try.underlying42, List.mem_cons, List.mem_append]
      exact .inr (.inl (weights_mem_all (List.mem_map.2 ⟨i, List.mem_range.2 hi, rfl⟩) hk)))
    have hq : ∀ i, i < l0 → ∃ x : Ent, ∃ A1 n1 c1 A2 n2 c2, (W.cell? (a.add (i * 4)) = some (.slice A1 n1 c1) ∧ W.cell? (a.add (i * 4 + 1)) = some (.int .i64 x.seq) ∧ W.cell? (a.add (i * 4 + 2)) = some (.int .i64 x.kind) ∧ W.cell? (a.add (i * 4 + 3)) = some (.slice A2 n2 c2)) ∧
        RdE W (.agg #[.slice A1 n1 c1, .int .i64 x.seq, .int .i64 x.kind, .slice A2 n2 c2]) x := by
      intro i hil
      obtain ⟨ys, n', hD, _, hyl, hf⟩ := hi i (by omega)
      match ys, hyl with
      | [y0, y1, y2, y3], _ =>
        obtain ⟨v0, z0, g0, e0, t0⟩ := hf 0 _ rfl
        obtain ⟨v1, z1, g1, e1, t1⟩ := hf 1 _ rfl
        obtain ⟨v2, z2, g2, e2, t2⟩ := hf 2 _ rfl
        obtain ⟨v3, z3, g3, e3, t3⟩ := hf 3 _ rfl
        simp at e0 e1 e2 e3
        subst e0 e1 e2 e3
        have hdi := hd i hil
        rw [hD] at hdi
        have hw0 : ∀ k ∈ y0.1.weights Try.prog 22, k ≤ reachBytes := fun k hk => hdi k (by simp [DataW.weights, DataW.weightsEach, Try.underlying25, hk])
        have hw3 : ∀ k ∈ y3.1.weights Try.prog 22, k ≤ reachBytes := fun k hk => hdi k (by simp [DataW.weights, DataW.weightsEach, Try.underlying25, hk])
        obtain ⟨A1, n1, c1, A2, n2, c2, x, rfl, rfl, rfl, rfl, hr⟩ := ent_of_cells t0 t1 t2 t3 hw0 hw3
        exact ⟨x, A1, n1, c1, A2, n2, c2, ⟨g0, g1, g2, g3⟩, hr⟩
    obtain ⟨xs, hxl, hxs⟩ := exists_list l0 hq
    refine ⟨some a, l0, c0, xs, hcs, ⟨hxl, hB, fun hpos => ?_⟩, hl⟩
    obtain ⟨b, o, spot⟩ := a
    obtain ⟨_, _, _, _, _, _, ⟨hc0, _⟩, _⟩ := hxs 0 (by omega)
    have hsp : spot = none := by simpa [Addr.add] using World.cell?_spot hc0
    subst hsp
    refine ⟨b, o, rfl, fun k hk => ?_⟩
    obtain ⟨A1, n1, c1, A2, n2, c2, ⟨h0, h1, h2, h3⟩, hr⟩ := hxs k hk
    simp only [add_none] at h0 h1 h2 h3
    exact ⟨A1, n1, c1, A2, n2, c2, ⟨h0, by rw [Nat.add_assoc]; exact h1, by rw [Nat.add_assoc]; exact h2, by rw [Nat.add_assoc]; exact h3⟩, hr⟩

set_option maxRecDepth 100000 in
theorem rdl_of_Trod {r : Reach} {b0 : Nat} {v : Value} {d : DataW H} {p : List MemPlace} (hv : Value.okWide Try.prog W r b0 42 v) (h : DataW.Trod enc Try.prog W base spare held 42 v d p)
    (hw : ∀ k ∈ d.weights Try.prog 42, k ≤ reachBytes) : ∃ A m c xs, v = .slice A m c ∧ RdL W A m xs ∧ m ≤ c := by
  obtain ⟨a0, l0, c0, rfl⟩ := okWide_slice Try.underlying42 hv
  obtain ⟨n, hn⟩ := h
  exact rdl_of_trod hn hw
end

end Go.Proofs.Ytpohmoakilioiaa
