/- Contracts of the reference's digits, Number, Bytes (layer 1) and of the entry's Bytes (layer 5). Conditions: the slices read as bytes. -/
import Derived.Test.YteooaplimiifiaaGreatKeyC
import Derived.Test.YteooaplimiifiaaGreatReadC
import Derived.Laws.OwnMore
namespace Go.Proofs.YteooaplimiifiaaGreat
set_option linter.unusedSimpArgs false
set_option linter.unusedVariables false
set_option maxRecDepth 100000
open Go.RowKit

theorem numB_pos (n : Nat) : 1 ≤ (numB n).length := by
  unfold numB numF; split <;> simp
theorem numF_pos (f n : Nat) : 1 ≤ (numF (f + 1) n).length := by
  unfold numF; split <;> simp


/-- The byte at j of bytes of the call's own; it may be written. -/
theorem OwnB.setB {w : World} {base g n c : Nat} {x : Bs} (h : OwnB w base (.slice (some ⟨g, 0, none⟩) n c) x) (j : Nat) (b : UInt8) (u : Value) (hu : u = .int .u8 (b.toNat : Int)) :
    OwnB (w.setCell ⟨g, j, none⟩ u) base (.slice (some ⟨g, 0, none⟩) n c) (x.set j b) := by
  have hn : n = x.length := by
    rcases h.out.2 with ⟨hv, _⟩ | ⟨g', cap, cur, hv, _⟩
    · cases hv
    · cases hv; rfl
  subst hn hu
  have := (World.ownsRow.stored h.out j (.int .u8 (b.toNat : Int))).1
  unfold OwnB
  rw [List.length_set]
  simpa [byV, List.map_set] using this
theorem OwnB.cellB {w : World} {base g n c : Nat} {x : Bs} (h : OwnB w base (.slice (some ⟨g, 0, none⟩) n c) x) (j : Nat) (hj : j < x.length) :
    w.cell? ⟨g, j, none⟩ = some (.int .u8 (x[j].toNat : Int)) ∧ w.frozen? ⟨g, j, none⟩ = false ∧ base ≤ g := by
  have hn : n = x.length := by
    rcases h.out.2 with ⟨hv, _⟩ | ⟨g', cap, cur, hv, _⟩
    · cases hv
    · cases hv; rfl
  subst hn
  have := World.ownsRow.cellAt h.out j (by omega)
  refine ⟨by rw [this]; simp [byV, List.getElem?_eq_getElem hj], World.ownsRow.frozenAt h.out j, ?_⟩
  exact (h.out.lt g rfl).1



theorem run_app (w : World) (ty : TypeId) (base : Nat) (v : Value) (y : Bs) (hown : OwnB w base v y) (A : Option Addr) (m c : Nat) (z : Bs) (hr : Rd w A m z) (hsz : y.length + z.length ≤ B47) (hbase : base ≤ w.heap.size) :
    ∃ v' w', (Builtin.append_ #[35, 35] ty #[v, .slice A m c]).run Tryz.prog w = .ok v' w' ∧ OwnB w' base v' (y ++ z) ∧ w.grownBy w' v.ownBlock ∧ (v' = .slice none 0 0 → v = .slice none 0 0) := by
  obtain ⟨i0, hi, hz0, hz1, hz2⟩ := info_parts Tryz.info5x
  have hzl := hr.1
  cases A with
  | none =>
    have h0 : m = 0 := by
      rcases Nat.eq_zero_or_pos m with h | h
      · exact h
      · obtain ⟨b, o, e, _⟩ := hr.2 h
        cases e
    subst h0
    obtain rfl := hr.nil_eq
    exact ⟨v, w, run_app_nil (P := Tryz.prog) w base 35 ty 5 i0 1 Tryz.underlying35 hi v _ _ hown.out c, by simpa using hown, World.grownBy.refl w _, id⟩
  | some ad =>
    have hnews : ∀ j u, (byV z)[j]? = some u → w.cell? (ad.add j) = some u := by
      intro j u hj
      have hjn : j < z.length := by
        have := (List.getElem?_eq_some_iff.1 hj).1
        simpa using this
      obtain ⟨b, o, e, hc⟩ := hr.2 (by omega)
      obtain rfl := Option.some.inj e
      have e2 : (⟨b, o, none⟩ : Addr).add j = ⟨b, o + j, none⟩ := by unfold Addr.add; split <;> simp_all
      rw [e2, hc j hjn]
      simpa [List.getElem?_eq_getElem hjn] using hj
    unfold B47 at hsz
    obtain ⟨v', w', h0, h1, h2, h3⟩ := run_append_own (P := Tryz.prog) w base 35 ty 5 i0 (.int .u8 0) 1 1 Tryz.underlying35 hi hz0 hz1 hz2 rfl (by decide) v y.length (byV y) hown.out ad m c (byV z) (by simp [byV]; omega) hnews
      (by intro u hu; obtain ⟨x, _, rfl⟩ := List.mem_map.1 hu; rfl) (by unfold maxLen; omega) (by omega) hbase
    refine ⟨v', w', h0, ?_, h2, fun e => (h3.1 e).1⟩
    unfold OwnB
    rw [List.length_append, hzl]
    simpa [byV] using h1

/-- 'append(out, b...)' of bytes as a region's operation. -/
theorem step_app {ops : Array Oper} {o : Oper} {a : Act} {w : World} {K : Act → World → Prop} {Q : Exit → Act → World → Prop} {E : Prop} (hgd : o.guard = none) (s x : Operand)
    (ho : o.op = .call { callee := .builtin .append, args := #[s, x], argTypes := #[35, 35] })
    (base : Nat) (v : Value) (y : Bs) (hs : a.eval s = v) (hown : OwnB w base v y) (A : Option Addr) (m c : Nat) (z : Bs) (hx : a.eval x = .slice A m c) (hr : Rd w A m z)
    (hsz : y.length + z.length ≤ B47) (hbase : base ≤ w.heap.size)
    (h : ∀ v' w', OwnB w' base v' (y ++ z) → w.grownBy w' v.ownBlock → (v' = .slice none 0 0 → v = .slice none 0 0) → K (a.put o.dst v') w') :
    if Region.wanted o (yielded ops a.tmps) = true then Oper.wp Tryz.prog o a w K Q else E := by
  have hw : Region.wanted o (yielded ops a.tmps) = true := by simp [Region.wanted, hgd]
  rw [if_pos hw]
  obtain ⟨v', w', hrun, h1, h2, h3⟩ := run_app w o.type base v y hown A m c z hr hsz hbase
  unfold Oper.wp
  simp [execOp, ho, resolve, invoke, builtin, hs, hx, hrun, Result.andThen]
  exact h v' w' h1 h2 h3

theorem Ext.growBy {a w w' : World} {base : Nat} {v : Value} {x : Bs} (h : Ext a w) (hg : w.grownBy w' v.ownBlock) (ho : OwnB w base v x) (hb : a.heap.size ≤ base) : Ext a w' :=
  h.grown hg (fun k hk => Nat.le_trans hb (ho.out.lt k hk).1)



end Go.Proofs.YteooaplimiifiaaGreat
