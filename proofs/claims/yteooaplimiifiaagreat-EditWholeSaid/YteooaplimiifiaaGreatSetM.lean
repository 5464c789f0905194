/- A set of numbers of 64 bits as a map of the call's own: asked, filled, counted. Conditions: none. -/
import Derived.Test.YteooaplimiifiaaGreatTab
import Derived.Maps.OwnSet
namespace Go.Proofs.YteooaplimiifiaaGreat
set_option linter.unusedSimpArgs false
set_option linter.unusedVariables false
set_option maxRecDepth 100000
open Go.RowKit Go.Maps Go.ChangeShapes Go.WideShapes

/-- How an element reads: a struct of one bool. -/
def setR (v : Value) : Option (DataW Unit × List MemPlace) := match v with
  | .agg a => match a.toList with
    | [.bool x] => some (.lit (.bool x), [])
    | _ => none
  | _ => none
theorem setR_inv {v : Value} {b : Bool} {ps : List MemPlace} (h : setR v = some (.lit (.bool b), ps)) : v = .agg #[.bool b] := by
  cases v with
  | agg a =>
    obtain ⟨l⟩ := a
    simp only [setR] at h
    split at h
    · rename_i heq
      simp at h
      rw [h.1]
    · cases h
  | _ => cases h
theorem seatKeyed : Keyed Tryz.prog 2 := int_keyed Tryz.underlying2
theorem zeroSet (w : World) : (zeroValue 49).run Tryz.prog w = .ok (.agg #[.bool false]) w := by kernel_rfl
theorem keyI {z : Int} (h : I64 z) : keyOf Tryz.prog 2 (.int .i64 z) = some (.int .i64 z) := keyOf_int_mk Tryz.underlying2 (by unfold I64 at h; simp [Lit.wf, IntKind.min, IntKind.max, IntKind.signed, IntKind.bits]; omega)

/-- Block b is the set S. -/
def SetM (w : World) (b : Nat) (S : List Int) : Prop :=
  ∃ D : DataW Unit, w.ownsMap Tryz.prog 2 setR b S.length D ∧ Tidy D ∧ Maps.size D = S.length ∧ ∀ z, Maps.has D (.int .i64 z) = decide (z ∈ S) ∧ D.atKey (.int .i64 z) (.lit (.bool false)) = .lit (.bool (decide (z ∈ S)))

theorem SetM.made (w : World) : SetM (w.alloc (.map #[] 0)) w.heap.size [] :=
  ⟨.map [], World.ownsMap_made _ _ _ _, tidy_empty, rfl, fun z => ⟨rfl, rfl⟩⟩
theorem SetM.kept {w w' : World} {b : Nat} {S : List Int} {row : Option Nat} (h : SetM w b S) (hg : w.grownBy w' row) (hne : some b ≠ row) : SetM w' b S := by
  obtain ⟨D, h1, h2⟩ := h
  exact ⟨D, h1.kept hg hne, h2⟩
theorem SetM.ext {w w' : World} {b : Nat} {S : List Int} (h : SetM w b S) (hx : Ext w w') : SetM w' b S :=
  h.kept (row := none) ⟨(Ext.below hx).os, (Ext.below hx).tape, (Ext.below hx).output, (Ext.below hx).size, fun k hk _ => (Ext.below hx).block k hk⟩ (by simp)
theorem SetM.lt {w : World} {b : Nat} {S : List Int} (h : SetM w b S) : b < w.heap.size := by
  obtain ⟨D, h1, _⟩ := h
  exact h1.lt

/-- 's[n]': the element. -/
theorem SetM.look {w : World} {b : Nat} {S : List Int} (h : SetM w b S) {z : Int} (hz : I64 z) :
    (Instr.lookup 48 (.map (some b)) (.int .i64 z) false).run Tryz.prog w = .ok (.agg #[.bool (decide (z ∈ S))]) w := by
  obtain ⟨D, h1, _, _, h2⟩ := h
  obtain ⟨v, ps, hrun, hv⟩ := h1.lookup seatKeyed Tryz.underlying48 (zeroSet w) (zd := .lit (.bool false)) (zp := []) rfl (keyI hz)
  rw [(h2 z).2] at hv
  rw [hrun, setR_inv hv]

/-- 's[n]' at the operation. -/
theorem wp_setLook {ops : Array Oper} {rest : List Oper} {o : Oper} {a : Act} {w : World} {Q : Exit → Act → World → Prop} (hwd : Region.wanted o (yielded ops a.tmps) = true) (m x : Operand) (ho : o.op = .lookup 48 m x false)
    (b : Nat) (S : List Int) (h : SetM w b S) (hm : a.eval m = .map (some b)) (z : Int) (hz : I64 z) (hx : a.eval x = .int .i64 z)
    (hK : wpList Tryz.prog ops Q rest (a.put o.dst (.agg #[.bool (decide (z ∈ S))])) w) : wpList Tryz.prog ops Q (o :: rest) a w := by
  refine wpList_step fun K hK' => ?_
  rw [if_pos hwd]
  unfold Oper.wp
  simp [execOp, ho, hm, hx, h.look hz, Result.andThen]
  rw [Oper.upon_value]
  exact hK' _ _ hK

/-- '.is' of an element. -/
theorem wp_setIs {ops : Array Oper} {rest : List Oper} {o : Oper} {a : Act} {w : World} {Q : Exit → Act → World → Prop} (hwd : Region.wanted o (yielded ops a.tmps) = true) (x : Operand) (ho : o.op = .field 49 x 0)
    (b : Bool) (hx : a.eval x = .agg #[.bool b])
    (hK : wpList Tryz.prog ops Q rest (a.put o.dst (.bool b)) w) : wpList Tryz.prog ops Q (o :: rest) a w := by
  have hrun : (Instr.field 49 (.agg #[.bool b]) 0).run Tryz.prog w = .ok (.bool b) w := by kernel_rfl
  refine wpList_step fun K hK' => ?_
  rw [if_pos hwd]
  unfold Oper.wp
  simp [execOp, ho, hx, hrun, Result.andThen]
  exact hK' _ _ hK

/-- 's[n] = there' at the operation, of a number that is not there. -/
theorem wp_setPut {ops : Array Oper} {rest : List Oper} {o : Oper} {a : Act} {w : World} {Q : Exit → Act → World → Prop} (hgd : o.guard = none) (m x v : Operand) (ho : o.op = .mapUpdate 48 m x v)
    (b : Nat) (S : List Int) (h : SetM w b S) (hm : a.eval m = .map (some b)) (z : Int) (hz : I64 z) (hx : a.eval x = .int .i64 z) (hv : a.eval v = .agg #[.bool true]) (hS : S.length ≤ 1000000) (hn : z ∉ S)
    (hK : ∀ w', SetM w' b (S ++ [z]) → w.grownBy w' (some b) → wpList Tryz.prog ops Q rest (a.put o.dst undef) w') : wpList Tryz.prog ops Q (o :: rest) a w := by
  obtain ⟨D, h1, h2, h3, h4⟩ := h
  refine wpList_mapUpdate_own w hgd m x v _ ho 2 49 seatKeyed Tryz.underlying48 setR b S.length D hm h1 (by unfold maxLen; omega) _ _ _ hx hv (keyI hz) (.lit (.bool true)) [] rfl ?_
  intro w' g1 g2
  have hk : WideAt.IsKeyLit (.int .i64 z) := trivial
  refine hK w' ⟨_, by simpa using g1, h2.put hk _, ?_, fun y => ?_⟩ g2
  · rw [size_put h2, (h4 z).1, decide_eq_false hn, h3]
    simp
  · by_cases e : y = z
    · subst e
      rw [has_put_same h2.isMap hk, atKey_put_same h2.isMap hk]
      simp
    · have hne : (Lit.int .i64 y) ≠ .int .i64 z := by intro h; cases h; exact e rfl
      rw [has_put_other hne, atKey_put_other hne, (h4 y).1, (h4 y).2]
      simp [e]

/-- 'len(s)' at the operation. -/
theorem wp_setLen {ops : Array Oper} {rest : List Oper} {o : Oper} {a : Act} {w : World} {Q : Exit → Act → World → Prop} (hgd : o.guard = none) (m : Operand) (ho : o.op = .call { callee := .builtin .len, args := #[m], argTypes := #[48] })
    (b : Nat) (S : List Int) (h : SetM w b S) (hm : a.eval m = .map (some b))
    (hK : wpList Tryz.prog ops Q rest (a.put o.dst (.int .i64 (S.length : Int))) w) : wpList Tryz.prog ops Q (o :: rest) a w := by
  obtain ⟨D, h1, h2, h3, h4⟩ := h
  refine wpList_len_own w hgd m _ ho 2 49 Tryz.underlying48 setR b S.length D hm h1 ?_
  rw [h3]
  exact hK

end Go.Proofs.YteooaplimiifiaaGreat
