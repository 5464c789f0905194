/- Arguments of the types api.Version, api.Edit that came in: they read so. Conditions: none. -/
import Derived.Test.YteooaplimiifiaaGreatEdDoM
import Derived.Deep.Slices
import Derived.Deep.Fields
import Derived.ChangeSame
import Derived.ProofKit
import Derived.OpenShut
import Derived.SizedLaws
import Derived.Lib.SmallJoins
namespace Go.Proofs.YteooaplimiifiaaGreat
set_option linter.unusedSimpArgs false
set_option linter.unusedVariables false
set_option maxRecDepth 100000
open Go.RowKit Go.ChangeShapes Go.WideShapes Go.ChangeAt Go.Joins Go.Deep

section
variable {H : Type} {enc : TypeId × Value → H} {W : World} {base : Nat} {spare : Nat → Bool} {held : Bool}

/-- The bytes of a row of numbers. -/
def bytesOfInts (zs : List Int) : Bs := zs.map fun z => UInt8.ofNat z.toNat

theorem rd_of_trod {n : Nat} {v : Value} {y : DataW H × List MemPlace} (h : DataW.trod enc Tryz.prog W base spare held n 35 [v] = some y)
    (hw : ∀ k ∈ y.1.weights Tryz.prog 35, k ≤ reachBytes) : ∃ A m c x, v = .slice A m c ∧ Rd W A m x ∧ m ≤ c ∧ m ≤ B47 := by
  rcases open_ints Tryz.underlying35 Tryz.underlying5 (by kernel_rfl) h with ⟨hcs, _⟩ | ⟨a, l, c, zs, hcs, _, hl, hm, hz, hx, hcell, hwz⟩
  · simp at hcs
    exact ⟨none, 0, 0, [], hcs, Rd.nil _ _, Nat.le_refl _, Nat.zero_le _⟩
  · simp at hcs
    have hll : l ≤ zs.length := by rw [hz]; split <;> omega
    refine ⟨some a, l, c, bytesOfInts (zs.take l), hcs, ⟨by simp [bytesOfInts]; omega, fun hn => ?_⟩, hl, ?_⟩
    · obtain ⟨b, o, spot⟩ := a
      have hc0 := hcell 0 (by omega)
      have hsp : spot = none := by simpa [Addr.add] using World.cell?_spot hc0
      subst hsp
      refine ⟨b, o, rfl, fun j hj => ?_⟩
      have hj2 : j < zs.length := by simp [bytesOfInts] at hj; omega
      have hcj := hcell j hj2
      have hwj := hwz (zs[j]) (List.getElem_mem hj2)
      have e2 : (⟨b, o, none⟩ : Addr).add j = ⟨b, o + j, none⟩ := by unfold Addr.add; split <;> simp_all
      rw [e2] at hcj
      rw [hcj]
      have hwj2 : (0 : Int) ≤ zs[j] ∧ zs[j] ≤ 255 := by simpa [Lit.wf, IntKind.min, IntKind.max, IntKind.signed, IntKind.bits] using hwj
      clear hwj
      simp [bytesOfInts, List.getD, List.getElem?_eq_getElem hj2]
      omega
    · rw [hx] at hw
      have := hw ((l + (zs.length - l)) * Tryz.prog.bytesOf 5) (by simp [DataW.weights, Tryz.underlying35, lits]; left; rw [Nat.min_eq_left hll])
      have hb : Tryz.prog.bytesOf 5 = 1 := by kernel_rfl
      rw [hb] at this
      unfold reachBytes at this
      unfold B47
      omega

set_option maxRecDepth 100000 in
theorem rdb_of_Trod {r : Reach} {b0 : Nat} {v : Value} {d : DataW H} {p : List MemPlace} (hv : Value.okWide Tryz.prog W r b0 35 v) (h : DataW.Trod enc Tryz.prog W base spare held 35 v d p)
    (hw : ∀ k ∈ d.weights Tryz.prog 35, k ≤ reachBytes) : ∃ A m c x, v = .slice A m c ∧ Rd W A m x ∧ m ≤ c ∧ m ≤ B47 := by
  obtain ⟨a, l, c, rfl⟩ := okWide_slice Tryz.underlying35 hv
  obtain ⟨n, hn⟩ := h
  exact rd_of_trod hn hw

theorem open_slice_fields {P : Program} {w : World} {t e : TypeId} {fs : Array Field} {fuel : Nat} {cs : List Value} {x : DataW H × List MemPlace} (ht : P.underlying t = some (.slice e)) (he : P.underlying e = some (.struct fs))
    (hone : oneCellFields P fs = true) (hC : P.cellsOf e = fs.size) (h : DataW.trod enc P w base spare held fuel t cs = some x) :
    (cs = [.slice none 0 0] ∧ x = (.nil, [])) ∨
    ∃ (a : Addr) (len cap m : Nat) (D : Nat → DataW H) (Pl : Nat → List MemPlace), cs = [.slice (some a) len cap] ∧ base ≤ a.block ∧ len ≤ cap ∧ cap ≤ maxLen ∧ m = (if spare a.block then cap else len) ∧
      x = (.slice ((List.range len).map D) ((List.range (m - len)).map fun j => D (len + j)), MemPlace.row a (m * fs.size) ++ (List.range m).flatMap Pl) ∧
      ∀ i, i < m → ∃ (ys : List (DataW H × List MemPlace)) (n : Nat), D i = .agg (ys.map (·.1)) ∧ Pl i = ys.flatMap (·.2) ∧ ys.length = fs.size ∧
        ∀ (j : Nat) (f : Field), fs[j]? = some f → ∃ (v : Value) (y : DataW H × List MemPlace), w.cell? (a.add (i * fs.size + j)) = some v ∧ ys[j]? = some y ∧ DataW.trod enc P w base spare held n f.type [v] = some y := by
  rcases open_slice ht h with h0 | ⟨a, len, cap, m, n, D, Pl, hcs, hb, hl, hm, hmm, hx, hi⟩
  · exact .inl h0
  · refine .inr ⟨a, len, cap, m, D, Pl, hcs, hb, hl, hm, hmm, by rw [hC] at hx; exact hx, fun i him => ?_⟩
    obtain ⟨cs', hc, ht'⟩ := hi i him
    rw [hC] at hc
    obtain ⟨ys, n', hn', hy, hlen, hyl, hf⟩ := DataW.trod_struct he ht'
    obtain ⟨_, hcl, hat⟩ := World.cells?_some hc
    simp only [Prod.mk.injEq] at hy
    refine ⟨ys, n', hy.1, hy.2, hyl, fun j f hj => ?_⟩
    obtain ⟨ho, hk⟩ := hone_of hone j f hj
    have hjl : j < fs.size := (Array.getElem?_eq_some_iff.1 hj).1
    have hcell := hat j hjl
    have hv : cs'[j]? = some (cs'[j]'(by omega)) := List.getElem?_eq_getElem (by omega)
    have h1 := hf j f hj
    rw [ho, hk] at h1
    have hone' : (cs'.drop j).take 1 = [cs'[j]'(by omega)] := by
      rw [List.drop_eq_getElem_cons (by omega)]
      rfl
    rw [hone'] at h1
    have hys : ys[j]? = some (ys[j]'(by omega)) := List.getElem?_eq_getElem (by omega)
    refine ⟨_, _, ?_, hys, h1.trans hys⟩
    rw [← Go.Deep.add_add, hcell, hv]

theorem exists_list {α : Type} {P : Nat → α → Prop} (n : Nat) (h : ∀ i, i < n → ∃ x, P i x) : ∃ xs : List α, xs.length = n ∧ ∀ i (hi : i < xs.length), P i xs[i] := by
  induction n with
  | zero => exact ⟨[], rfl, fun i hi => absurd hi (by simp)⟩
  | succ n ih =>
    obtain ⟨xs, hl, hx⟩ := ih fun i hi => h i (by omega)
    obtain ⟨x, hx'⟩ := h n (by omega)
    refine ⟨xs ++ [x], by simp [hl], fun i hi => ?_⟩
    by_cases hc : i < xs.length
    · rw [List.getElem_append_left hc]; exact hx i hc
    · have : i = n := by simp at hi; omega
      subst this
      rw [List.getElem_append_right (by omega)]
      simpa [hl] using hx'

theorem weights_mem_all {P : Program} {e : TypeId} {d : DataW H} {k : Nat} {l : List (DataW H)} (hd : d ∈ l) (hk : k ∈ d.weights P e) : k ∈ DataW.weightsAll P e l := by
  induction l with
  | nil => cases hd
  | cons y r ih =>
    simp only [DataW.weightsAll, List.mem_append]
    rcases List.mem_cons.1 hd with rfl | hd
    · exact .inl hk
    · exact .inr (ih hd)

theorem add_none (b o i : Nat) : (⟨b, o, none⟩ : Addr).add i = ⟨b, o + i, none⟩ := by unfold Addr.add; split <;> simp_all

/-- A struct of one-cell fields, opened. -/
theorem open_aggN {r : Reach} {b0 : Nat} {t : TypeId} {fs : Array Field} {v : Value} {d : DataW H} {p : List MemPlace} (hs : Tryz.prog.underlying t = some (.struct fs)) (hone : oneCellFields Tryz.prog fs = true) (hC : Tryz.prog.cellsOf t = fs.size)
    (hv : Value.okWide Tryz.prog W r b0 t v) (h : DataW.Trod enc Tryz.prog W base spare held t v d p) :
    ∃ (cs : List Value) (ys : List (DataW H × List MemPlace)) (n : Nat), v = .agg cs.toArray ∧ cs.length = fs.size ∧ ys.length = fs.size ∧ d = .agg (ys.map (·.1)) ∧ p = ys.flatMap (·.2) ∧
      ∀ (j : Nat) (f : Field), fs[j]? = some f → ∃ (u : Value) (y : DataW H × List MemPlace), cs[j]? = some u ∧ ys[j]? = some y ∧ DataW.trod enc Tryz.prog W base spare held n f.type [u] = some y := by
  obtain ⟨cs, rfl, hsz⟩ := okWide_struct hs hv
  obtain ⟨fuel, hf⟩ := h
  obtain ⟨ys, n', hn', hy, hlen, hyl, hff⟩ := DataW.trod_struct hs hf
  simp only [Prod.mk.injEq] at hy
  have hcl : cs.toList.length = fs.size := by rw [Array.length_toList]; exact hsz.trans hC
  refine ⟨cs.toList, ys, n', by simp, hcl, hyl, hy.1, hy.2, fun j f hj => ?_⟩
  obtain ⟨ho, hk⟩ := hone_of hone j f hj
  have hjl : j < fs.size := (Array.getElem?_eq_some_iff.1 hj).1
  have h1 := hff j f hj
  rw [ho, hk] at h1
  have e : (Value.agg cs).cells.toList = cs.toList := rfl
  rw [e] at h1
  have hone' : (cs.toList.drop j).take 1 = [cs.toList[j]'(by omega)] := by
    rw [List.drop_eq_getElem_cons (by omega)]
    rfl
  rw [hone'] at h1
  have hys : ys[j]? = some (ys[j]'(by omega)) := List.getElem?_eq_getElem (by omega)
  exact ⟨_, _, List.getElem?_eq_getElem (by omega), hys, h1.trans hys⟩

theorem i64_of {z : Int} {t : TypeId} {y : DataW H × List MemPlace} {n : Nat} (ht : Tryz.prog.underlying t = some (.int .i64)) {v : Value} (h : DataW.trod enc Tryz.prog W base spare held n t [v] = some y) : ∃ z, v = .int .i64 z ∧ I64 z := by
  obtain ⟨s1, e1, _, hw⟩ := DataW.trod_int ht h
  simp at e1
  subst e1
  exact ⟨s1, rfl, by simpa [Lit.wf, IntKind.min, IntKind.max, IntKind.signed, IntKind.bits, I64] using hw⟩

theorem list5 {α : Type} {l : List α} (h : l.length = 5) : ∃ a b c d e, l = [a, b, c, d, e] := by
  match l, h with
  | [a, b, c, d, e], _ => exact ⟨a, b, c, d, e, rfl⟩
theorem list6 {α : Type} {l : List α} (h : l.length = 6) : ∃ a b c d e f, l = [a, b, c, d, e, f] := by
  match l, h with
  | [a, b, c, d, e, f], _ => exact ⟨a, b, c, d, e, f, rfl⟩

/-- One table read off its five cells. -/
theorem tab_of_cells {n : Nat} {v0 v1 v2 v3 v4 : Value} {y0 y1 y2 y3 y4 : DataW H × List MemPlace} (t0 : DataW.trod enc Tryz.prog W base spare held n 2 [v0] = some y0) (t1 : DataW.trod enc Tryz.prog W base spare held n 3 [v1] = some y1)
    (t2 : DataW.trod enc Tryz.prog W base spare held n 35 [v2] = some y2) (t3 : DataW.trod enc Tryz.prog W base spare held n 35 [v3] = some y3) (t4 : DataW.trod enc Tryz.prog W base spare held n 2 [v4] = some y4)
    (hw2 : ∀ k ∈ y2.1.weights Tryz.prog 35, k ≤ reachBytes) (hw3 : ∀ k ∈ y3.1.weights Tryz.prog 35, k ≤ reachBytes) :
    ∃ t A m c A' m' c', v0 = .int .i64 t.num ∧ v1 = .int .i64 t.lvl ∧ v2 = .slice A m c ∧ v3 = .slice A' m' c' ∧ v4 = .int .i64 t.size ∧ RdT W (.agg #[.int .i64 t.num, .int .i64 t.lvl, .slice A m c, .slice A' m' c', .int .i64 t.size]) t := by
  obtain ⟨A, m, c, x2, rfl, r2, l2, b2⟩ := rd_of_trod t2 hw2
  obtain ⟨A', m', c', x3, rfl, r3, l3, b3⟩ := rd_of_trod t3 hw3
  obtain ⟨s0, rfl, i0⟩ := i64_of (z := 0) Tryz.underlying2 t0
  obtain ⟨s1, rfl, i1⟩ := i64_of (z := 0) Tryz.underlying3 t1
  obtain ⟨s4, rfl, i4⟩ := i64_of (z := 0) Tryz.underlying2 t4
  exact ⟨⟨s0, s1, x2, x3, s4⟩, A, m, c, A', m', c', rfl, rfl, rfl, rfl, rfl, A, m, c, A', m', c', rfl, r2, r3, l2, b2, l3, b3, i0, i1, i4⟩

set_option maxRecDepth 100000 in
theorem rdlt_of_trod {n : Nat} {v : Value} {y : DataW H × List MemPlace} (h : DataW.trod enc Tryz.prog W base spare held n 22 [v] = some y)
    (hw : ∀ k ∈ y.1.weights Tryz.prog 22, k ≤ reachBytes) : ∃ A m c ts, v = .slice A m c ∧ RdLT W A m ts ∧ m ≤ c := by
  rcases open_slice_fields Tryz.underlying22 Tryz.underlying42 (by kernel_rfl) (by kernel_rfl) h with ⟨hcs, _⟩ | ⟨a, l0, c0, m, D, Pl, hcs, hb, hl, hm, hmm, hx, hi⟩
  · simp at hcs
    exact ⟨none, 0, 0, [], hcs, RdLT.nil _ _, Nat.le_refl _⟩
  · simp at hcs
    subst hcs
    have hlm : l0 ≤ m := by rw [hmm]; split <;> omega
    have hbytes : Tryz.prog.bytesOf 42 = 72 := by kernel_rfl
    have hreach : (l0 + (m - l0)) * 72 ≤ reachBytes := by
      have := hw ((l0 + (m - l0)) * 72) (by rw [hx]; simp [DataW.weights, Tryz.underlying22, hbytes])
      exact this
    have hB : l0 ≤ B47 := by unfold reachBytes at hreach; unfold B47; omega
    have hd : ∀ i, i < l0 → ∀ k ∈ (D i).weights Tryz.prog 42, k ≤ reachBytes := fun i hi k hk => hw k (by
      rw [hx]
      simp only [DataW.weights, Tryz.underlying22, List.mem_cons, List.mem_append]
      exact .inr (.inl (weights_mem_all (List.mem_map.2 ⟨i, List.mem_range.2 hi, rfl⟩) hk)))
    have hq : ∀ i, i < l0 → ∃ t : Tab, ∃ A1 n1 c1 A2 n2 c2, W.cell? (a.add (i * 5)) = some (.int .i64 t.num) ∧ W.cell? (a.add (i * 5 + 1)) = some (.int .i64 t.lvl) ∧ W.cell? (a.add (i * 5 + 2)) = some (.slice A1 n1 c1) ∧ W.cell? (a.add (i * 5 + 3)) = some (.slice A2 n2 c2) ∧ W.cell? (a.add (i * 5 + 4)) = some (.int .i64 t.size) ∧
        RdT W (.agg #[.int .i64 t.num, .int .i64 t.lvl, .slice A1 n1 c1, .slice A2 n2 c2, .int .i64 t.size]) t := by
      intro i hil
      obtain ⟨ys, n', hD, _, hyl, hf⟩ := hi i (by omega)
      obtain ⟨y0, y1, y2, y3, y4, rfl⟩ := list5 hyl
      obtain ⟨v0, z0, g0, e0, t0⟩ := hf 0 _ rfl
      obtain ⟨v1, z1, g1, e1, t1⟩ := hf 1 _ rfl
      obtain ⟨v2, z2, g2, e2, t2⟩ := hf 2 _ rfl
      obtain ⟨v3, z3, g3, e3, t3⟩ := hf 3 _ rfl
      obtain ⟨v4, z4, g4, e4, t4⟩ := hf 4 _ rfl
      simp at e0 e1 e2 e3 e4
      subst e0 e1 e2 e3 e4
      have hdi := hd i hil
      rw [hD] at hdi
      have hw2 : ∀ k ∈ y2.1.weights Tryz.prog 35, k ≤ reachBytes := fun k hk => hdi k (by simp [DataW.weights, DataW.weightsEach, Tryz.underlying42, hk])
      have hw3 : ∀ k ∈ y3.1.weights Tryz.prog 35, k ≤ reachBytes := fun k hk => hdi k (by simp [DataW.weights, DataW.weightsEach, Tryz.underlying42, hk])
      obtain ⟨t, A1, n1, c1, A2, n2, c2, rfl, rfl, rfl, rfl, rfl, hr⟩ := tab_of_cells t0 t1 t2 t3 t4 hw2 hw3
      exact ⟨t, A1, n1, c1, A2, n2, c2, g0, g1, g2, g3, g4, hr⟩
    obtain ⟨xs, hxl, hxs⟩ := exists_list l0 hq
    refine ⟨some a, l0, c0, xs, rfl, ⟨hxl, hB, fun hpos => ?_⟩, hl⟩
    obtain ⟨b, o, spot⟩ := a
    obtain ⟨_, _, _, _, _, _, hc0, _⟩ := hxs 0 (by omega)
    have hsp : spot = none := by simpa [Addr.add] using World.cell?_spot hc0
    subst hsp
    refine ⟨b, o, rfl, fun k hk => ?_⟩
    obtain ⟨A1, n1, c1, A2, n2, c2, h0, h1, h2, h3, h4, hr⟩ := hxs k hk
    simp only [add_none] at h0 h1 h2 h3 h4
    simp only [Nat.add_assoc] at *
    exact ⟨A1, n1, c1, A2, n2, c2, ⟨h0, h1, h2, h3, h4⟩, hr⟩

theorem rdn_of_trod {n : Nat} {v : Value} {y : DataW H × List MemPlace} (h : DataW.trod enc Tryz.prog W base spare held n 26 [v] = some y)
    (hw : ∀ k ∈ y.1.weights Tryz.prog 26, k ≤ reachBytes) : ∃ A m c zs, v = .slice A m c ∧ RdN W A m zs ∧ m ≤ c := by
  rcases open_ints Tryz.underlying26 Tryz.underlying2 (by kernel_rfl) h with ⟨hcs, _⟩ | ⟨a, l, c, zs, hcs, _, hl, hm, hz, hx, hcell, hwz⟩
  · simp at hcs
    exact ⟨none, 0, 0, [], hcs, ⟨rfl, Nat.zero_le _, fun h => absurd h (by omega), fun z hz => absurd hz (by simp)⟩, Nat.le_refl _⟩
  · simp at hcs
    have hll : l ≤ zs.length := by rw [hz]; split <;> omega
    have hI : ∀ z ∈ zs.take l, I64 z := fun z hzz => by
      have := hwz z (List.mem_of_mem_take hzz)
      simpa [Lit.wf, IntKind.min, IntKind.max, IntKind.signed, IntKind.bits, I64] using this
    refine ⟨some a, l, c, zs.take l, hcs, ⟨by simp; omega, ?_, fun hn => ?_, hI⟩, hl⟩
    · rw [hx] at hw
      have := hw ((l + (zs.length - l)) * Tryz.prog.bytesOf 2) (by simp [DataW.weights, Tryz.underlying26, lits]; left; rw [Nat.min_eq_left hll])
      have hb : Tryz.prog.bytesOf 2 = 8 := by kernel_rfl
      rw [hb] at this
      unfold reachBytes at this
      unfold B47
      omega
    · obtain ⟨b, o, spot⟩ := a
      have hc0 := hcell 0 (by omega)
      have hsp : spot = none := by simpa [Addr.add] using World.cell?_spot hc0
      subst hsp
      refine ⟨b, o, rfl, fun j hj => ?_⟩
      have hj2 : j < zs.length := by simp at hj; omega
      have hcj := hcell j hj2
      rw [add_none] at hcj
      rw [hcj]
      simp [List.getD, List.getElem?_eq_getElem hj2]

set_option maxRecDepth 100000 in
theorem ver_of_trod {r : Reach} {b0 : Nat} {v : Value} {d : DataW H} {p : List MemPlace} (hv : Value.okWide Tryz.prog W r b0 24 v) (h : DataW.Trod enc Tryz.prog W base spare held 24 v d p)
    (hw : ∀ k ∈ d.weights Tryz.prog 24, k ≤ reachBytes) : ∃ x, RdV W v x := by
  obtain ⟨cs, ys, n, rfl, hcl, hyl, rfl, _, hf⟩ := open_aggN Tryz.underlying24 (by kernel_rfl) (by kernel_rfl) hv h
  obtain ⟨v0, v1, v2, v3, v4, rfl⟩ := list5 hcl
  obtain ⟨y0, y1, y2, y3, y4, rfl⟩ := list5 hyl
  obtain ⟨u0, z0, c0, e0, t0⟩ := hf 0 _ rfl
  obtain ⟨u1, z1, c1, e1, t1⟩ := hf 1 _ rfl
  obtain ⟨u2, z2, c2, e2, t2⟩ := hf 2 _ rfl
  obtain ⟨u3, z3, c3, e3, t3⟩ := hf 3 _ rfl
  obtain ⟨u4, z4, c4, e4, t4⟩ := hf 4 _ rfl
  simp at c0 c1 c2 c3 c4 e0 e1 e2 e3 e4
  subst c0 c1 c2 c3 c4 e0 e1 e2 e3 e4
  obtain ⟨s0, rfl, _⟩ := i64_of (z := 0) Tryz.underlying2 t0
  obtain ⟨s1, rfl, _⟩ := i64_of (z := 0) Tryz.underlying2 t1
  obtain ⟨s2, rfl, _⟩ := i64_of (z := 0) Tryz.underlying2 t2
  obtain ⟨s3, rfl, _⟩ := i64_of (z := 0) Tryz.underlying2 t3
  obtain ⟨A, m, c, ts, rfl, hr, hc⟩ := rdlt_of_trod t4 (fun k hk => hw k (by simp [DataW.weights, DataW.weightsEach, Tryz.underlying24, hk]))
  exact ⟨⟨s0, s1, s2, s3, ts⟩, A, m, c, rfl, hr, hc⟩

set_option maxRecDepth 100000 in
theorem edt_of_trod {r : Reach} {b0 : Nat} {v : Value} {d : DataW H} {p : List MemPlace} (hv : Value.okWide Tryz.prog W r b0 28 v) (h : DataW.Trod enc Tryz.prog W base spare held 28 v d p)
    (hw : ∀ k ∈ d.weights Tryz.prog 28, k ≤ reachBytes) : ∃ x, RdEd W v x := by
  obtain ⟨cs, ys, n, rfl, hcl, hyl, rfl, _, hf⟩ := open_aggN Tryz.underlying28 (by kernel_rfl) (by kernel_rfl) hv h
  obtain ⟨v0, v1, v2, v3, v4, v5, rfl⟩ := list6 hcl
  obtain ⟨y0, y1, y2, y3, y4, y5, rfl⟩ := list6 hyl
  obtain ⟨u0, z0, c0, e0, t0⟩ := hf 0 _ rfl
  obtain ⟨u1, z1, c1, e1, t1⟩ := hf 1 _ rfl
  obtain ⟨u2, z2, c2, e2, t2⟩ := hf 2 _ rfl
  obtain ⟨u3, z3, c3, e3, t3⟩ := hf 3 _ rfl
  obtain ⟨u4, z4, c4, e4, t4⟩ := hf 4 _ rfl
  obtain ⟨u5, z5, c5, e5, t5⟩ := hf 5 _ rfl
  simp at c0 c1 c2 c3 c4 c5 e0 e1 e2 e3 e4 e5
  subst c0 c1 c2 c3 c4 c5 e0 e1 e2 e3 e4 e5
  obtain ⟨s2, rfl, _⟩ := i64_of (z := 0) Tryz.underlying2 t2
  obtain ⟨s3, rfl, _⟩ := i64_of (z := 0) Tryz.underlying2 t3
  obtain ⟨s4, rfl, _⟩ := i64_of (z := 0) Tryz.underlying2 t4
  obtain ⟨s5, rfl, _⟩ := i64_of (z := 0) Tryz.underlying2 t5
  obtain ⟨A, m, c, zs, rfl, hr, hc⟩ := rdn_of_trod t0 (fun k hk => hw k (by simp [DataW.weights, DataW.weightsEach, Tryz.underlying28, hk]))
  obtain ⟨B, m', d, ts, rfl, hr2, hd⟩ := rdlt_of_trod t1 (fun k hk => hw k (by simp [DataW.weights, DataW.weightsEach, Tryz.underlying28, hk]))
  exact ⟨⟨zs, ts, s2, s3, s4, s5⟩, A, m, c, B, m', d, rfl, hr, hc, hr2, hd⟩

end

end Go.Proofs.YteooaplimiifiaaGreat
