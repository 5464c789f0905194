/- A row of tables as a list of pairs (header, table) in a block: read, written in place. Conditions: none. -/
import Derived.Test.YteooaplimiifiaaGreatOwnT
import Derived.Laws.CopyRow
namespace Go.Proofs.YteooaplimiifiaaGreat
set_option linter.unusedSimpArgs false
set_option linter.unusedVariables false
set_option maxRecDepth 100000
open Go.RowKit

abbrev Pr := HdT × Tab
def cellsP (p : Pr) : List Value := cellsT p.1 p.2
def rowP (L : List Pr) : List Value := (L.map cellsP).flatten
theorem cellsP_len (p : Pr) : (cellsP p).length = 5 := rfl
theorem rowP_len (L : List Pr) : (rowP L).length = L.length * 5 := by
  induction L with
  | nil => rfl
  | cons p L ih =>
    have e : rowP (p :: L) = cellsP p ++ rowP L := rfl
    rw [e, List.length_append, ih, cellsP_len, List.length_cons]
    omega
theorem rowP_append (L M : List Pr) : rowP (L ++ M) = rowP L ++ rowP M := by simp [rowP]
theorem seg5 (a b c q tail : List Value) (hb : b.length = 5) : ((a ++ (b ++ c)) ++ tail).take a.length ++ q ++ ((a ++ (b ++ c)) ++ tail).drop (a.length + 5) = (a ++ (q ++ c)) ++ tail := by
  have h1 : ((a ++ (b ++ c)) ++ tail).take a.length = a := by rw [List.append_assoc, List.take_left]
  have h2 : ((a ++ (b ++ c)) ++ tail).drop (a.length + 5) = c ++ tail := by
    rw [show (a ++ (b ++ c)) ++ tail = (a ++ b) ++ (c ++ tail) by simp, show a.length + 5 = (a ++ b).length by rw [List.length_append, hb], List.drop_left]
  rw [h1, h2]
  simp
theorem rowP_set (L : List Pr) (i : Nat) (q : Pr) (tail : List Value) (hi : i < L.length) :
    (rowP L ++ tail).take (i * 5) ++ cellsP q ++ (rowP L ++ tail).drop (i * 5 + 5) = rowP (L.set i q) ++ tail := by
  have e1 : rowP L = rowP (L.take i) ++ (cellsP L[i] ++ rowP (L.drop (i + 1))) := by
    conv => lhs; rw [← List.take_append_drop i L, rowP_append, List.drop_eq_getElem_cons hi]
    rfl
  have e2 : rowP (L.set i q) = rowP (L.take i) ++ (cellsP q ++ rowP (L.drop (i + 1))) := by
    rw [List.set_eq_take_append_cons_drop, if_pos hi, rowP_append]
    rfl
  have l1 : (rowP (L.take i)).length = i * 5 := by rw [rowP_len, List.length_take]; omega
  rw [e1, e2, ← l1]
  exact seg5 _ _ _ _ _ (cellsP_len _)

/-- Block g holds the row L, and what stands behind it. -/
def RowP (w : World) (g : Nat) (L : List Pr) (tail : List Value) : Prop := w.heap[g]? = some (.cells (rowP L ++ tail).toArray 42 (0, 0))
theorem RowP.ext {w w' : World} {g : Nat} {L : List Pr} {tail : List Value} (h : RowP w g L tail) (hx : Ext w w') : RowP w' g L tail := ((Ext.below hx).block _ (Array.getElem?_eq_some_iff.1 h).1).trans h
theorem cellsP_one (p : Pr) : ∀ v ∈ cellsP p, v.oneCell' = true := by
  intro v hv
  simp [cellsP, cellsT] at hv
  rcases hv with rfl | rfl | rfl | rfl | rfl <;> rfl

/-- A store of a table at place i of the row. -/
theorem RowP.store {w : World} {g : Nat} {L : List Pr} {tail : List Value} (h : RowP w g L tail) (i : Nat) (hi : i < L.length) (q : Pr) :
    ∃ w', (storeCells ⟨g, i * 5, none⟩ (cellsP q) 0).run Tryz.prog w = .ok () w' ∧ RowP w' g (L.set i q) tail ∧ w.grownBy w' (some g) := by
  have hr := run_storeCells_at Tryz.prog g (i * 5) 42 (cellsP q) 0 (rowP L ++ tail).toArray w h (by simp [rowP_len, cellsP_len]; omega) (cellsP_one q)
  rw [Nat.add_zero, cellsP_len, rowP_set L i q tail hi] at hr
  exact ⟨_, hr, setRow_heap w g _ _ _ _ h, ⟨rfl, rfl, rfl, by simp [World.setRow], fun k _ hk => setRow_other w g k _ (fun e => hk (by rw [e]))⟩⟩

/-- A store of a table at place i of the row, at the operation. -/
theorem wp_storeP {ops : Array Oper} {rest : List Oper} {o : Oper} {a : Act} {w : World} {Q : Exit → Act → World → Prop} (hgd : o.guard = none) (x y : Operand) (ho : o.op = .store 42 x y)
    (g : Nat) (L : List Pr) (tail : List Value) (h : RowP w g L tail) (i : Nat) (hi : i < L.length) (q : Pr) (off : Nat) (hoff : off = i * 5) (hx : a.eval x = .pointer (some ⟨g, off, none⟩)) (hy : a.eval y = .agg (cellsP q).toArray)
    (hK : ∀ w', RowP w' g (L.set i q) tail → w.grownBy w' (some g) → wpList Tryz.prog ops Q rest (a.put o.dst undef) w') : wpList Tryz.prog ops Q (o :: rest) a w := by
  subst hoff
  obtain ⟨w', hrun, h1, h2⟩ := h.store i hi q
  refine wpList_plain hgd fun K hK' => ?_
  have hs : (Instr.storeAt 42 (.pointer (some ⟨g, i * 5, none⟩)) (.agg (cellsP q).toArray)).run Tryz.prog w = .ok () w' := by
    simp [Instr.storeAt, Instr.sureAddr, storeVar, Value.cells, hrun, go_sem, cellsP_len]
  unfold Oper.wp
  simp [execOp, ho, hx, hy, hs, Result.andThen]
  exact hK' _ _ (hK w' h1 h2)

theorem rowP_take (L : List Pr) (i : Nat) (tail : List Value) (hi : i ≤ L.length) : (rowP L ++ tail).take (i * 5) = rowP (L.take i) := by
  have l1 : (rowP (L.take i)).length = i * 5 := by rw [rowP_len, List.length_take]; omega
  conv => lhs; rw [← List.take_append_drop i L, rowP_append, List.append_assoc, ← l1, List.take_left]

/-- 'clear(s[i:])': the first i tables stay. -/
theorem RowP.clear {w : World} {g : Nat} {L : List Pr} {tail : List Value} (h : RowP w g L tail) (i n c : Nat) (ty : TypeId) (hn : L.length = i + n) :
    ∃ w' tail2, (Builtin.clear_ #[22] ty #[.slice (some ⟨g, i * 5, none⟩) n c]).run Tryz.prog w = .ok (.tuple #[]) w' ∧ RowP w' g (L.take i) tail2 ∧ tail2.length = n * 5 + tail.length ∧ w.grownBy w' (some g) := by
  rcases Nat.eq_zero_or_pos n with h0 | hp
  · subst h0
    refine ⟨w, tail, ?_, by rw [List.take_of_length_le (by omega)]; exact h, by omega, World.grownBy.refl _ _⟩
    simp [Builtin.clear_, run_underlying Tryz.underlying22]
  · obtain ⟨m, rfl⟩ : ∃ m, n = m + 1 := ⟨n - 1, by omega⟩
    have hz : ∀ w, (zeroValue 42).run Tryz.prog w = .ok (.agg #[.int .i64 0, .int .i64 0, .slice none 0 0, .slice none 0 0, .int .i64 0]) w := fun w => by kernel_rfl
    obtain ⟨vs, hvs⟩ : ∃ vs, vs = (Builtin.zeroCells #[.int .i64 0, .int .i64 0, .slice none 0 0, .slice none 0 0, .int .i64 0] (m + 1)).toList := ⟨_, rfl⟩
    have hl : vs.length = (m + 1) * 5 := by rw [hvs]; simp [size_zeroCells]
    have h1 : ∀ v ∈ vs, v.oneCell' = true := by
      intro v hv
      rw [hvs] at hv
      simp [Builtin.zeroCells] at hv
      obtain ⟨k, _, rfl⟩ := hv
      have : k % 5 < 5 := Nat.mod_lt _ (by omega)
      generalize k % 5 = q at this
      match q, this with
      | 0, _ => rfl
      | 1, _ => rfl
      | 2, _ => rfl
      | 3, _ => rfl
      | 4, _ => rfl
    have hr := run_storeCells_at Tryz.prog g (i * 5) 42 vs 0 (rowP L ++ tail).toArray w h (by simp [rowP_len]; omega) h1
    rw [Nat.add_zero, hl] at hr
    simp only [List.toList_toArray] at hr
    rw [rowP_take L i tail (by omega), List.append_assoc] at hr
    refine ⟨_, vs ++ (rowP L ++ tail).drop (i * 5 + (m + 1) * 5), ?_, setRow_heap w g _ _ _ _ h, ?_, ⟨rfl, rfl, rfl, by simp [World.setRow], fun k _ hk => setRow_other w g k _ (fun e => hk (by rw [e]))⟩⟩
    · simp only [hvs] at hr
      simp [Builtin.clear_, run_underlying Tryz.underlying22, hz, Value.cells, hr, hvs]
    · rw [List.length_append, hl, List.length_drop, List.length_append, rowP_len]
      omega

end Go.Proofs.YteooaplimiifiaaGreat
