/- Contracts of wire's writers: spell, Number, Bytes, Join. Conditions: sizes within the reach. -/
import Derived.Test.YteooaplimiifiaaKeyA
import Derived.Test.YteooaplimiifiaaWireM
import Derived.Maps.AppendAt
namespace Go.Proofs.Yteooaplimiifiaa
set_option linter.unusedSimpArgs false
set_option linter.unusedVariables false
open Go.RowKit

abbrev byV (x : Bs) : List Value := x.map fun b => .int .u8 (b.toNat : Int)

/-- What the layers' lengths stay within. -/
def B40 : Nat := 1099511627776

/-- The value owns, from block 'base' on, a row of just these bytes. -/
def OwnB (w : World) (base : Nat) (v : Value) (x : Bs) : Prop := w.ownsRow base 5 1 v x.length (byV x)
theorem OwnB.out {w : World} {base : Nat} {v : Value} {x : Bs} (h : OwnB w base v x) : w.ownsRow base 5 1 v x.length (byV x) := h
theorem OwnB.snoc {w : World} {base n : Nat} {v : Value} {x : Bs} {b : UInt8} {u : Value} (h : w.ownsRow base 5 1 v n (byV x ++ [u])) (hn : n = x.length + 1) (hu : u = .int .u8 (b.toNat : Int)) : OwnB w base v (x ++ [b]) := by
  unfold OwnB
  subst hn hu
  simpa [byV] using h
theorem OwnB.nil (w : World) (base : Nat) : OwnB w base (.slice none 0 0) [] := World.ownsRow_nil _ _ _ _
theorem OwnB.form {w : World} {base : Nat} {v : Value} {x : Bs} (h : OwnB w base v x) : ∃ A c, v = .slice A x.length c ∧ x.length ≤ c ∧ Rd w A x.length x ∧ Hi base A x.length := by
  obtain ⟨A, c, rfl, hc⟩ := own_form h.out
  exact ⟨A, c, rfl, hc, Rd.of_own h.out, Hi.of_own h.out⟩

theorem OwnB.mono {w : World} {base base' : Nat} {v : Value} {x : Bs} (h : OwnB w base v x) (hb : base' ≤ base) : OwnB w base' v x := by
  refine ⟨h.out.1, ?_⟩
  rcases h.out.2 with hn | ⟨g, cap, cur, e, hg, rest⟩
  · exact .inl hn
  · exact .inr ⟨g, cap, cur, e, Nat.le_trans hb hg, rest⟩

theorem OwnB.formN {w : World} {base : Nat} {v : Value} {x : Bs} (h : OwnB w base v x) : ∃ A n c, v = .slice A n c ∧ n ≤ c ∧ Rd w A n x ∧ Hi base A n := by
  obtain ⟨A, c, rfl, h1, h2, h3⟩ := h.form
  exact ⟨A, _, c, rfl, h1, h2, h3⟩


theorem run_app_nil {P : Program} (w : World) (base : Nat) (t ty e : TypeId) (i : TypeInfo) (size : Nat) (ht : P.underlying t = some (.slice e)) (hi : P.info? e = some i)
    (v : Value) (n : Nat) (xs : List Value) (hown : w.ownsRow base e size v n xs) (c : Nat) : (Builtin.append_ #[t, t] ty #[v, .slice none 0 c]).run P w = .ok v w := by
  rcases hown.2 with ⟨rfl, rfl⟩ | ⟨g, cap, cur, rfl, _, _, hnc, _⟩
  · simp [Builtin.append_, run_underlying ht, sizeOf, typeInfo, hi, Builtin.lenOf, Builtin.firstCells]
  · simp [Builtin.append_, run_underlying ht, sizeOf, typeInfo, hi, Builtin.lenOf, Builtin.firstCells, hnc, storeCells]

/-- 'append(out, b...)' of bytes, out the call's own, b any slice that reads. -/
theorem wp_app0 {ops : Array Oper} {rest : List Oper} {o : Oper} {a : Act} {w : World} {Q : Exit → Act → World → Prop} (hgd : o.guard = none) (s x : Operand)
    (ho : o.op = .call { callee := .builtin .append, args := #[s, x], argTypes := #[38, 38] })
    (base : Nat) (v : Value) (y : Bs) (hs : a.eval s = v) (hown : OwnB w base v y) (A : Option Addr) (m c : Nat) (z : Bs) (hx : a.eval x = .slice A m c) (hr : Rd w A m z)
    (hsz : y.length + z.length ≤ B47) (hbase : base ≤ w.heap.size)
    (h : ∀ v' w', OwnB w' base v' (y ++ z) → w.grownBy w' v.ownBlock → (v' = .slice none 0 0 → v = .slice none 0 0) → wpList Try.prog ops Q rest (a.put o.dst v') w') : wpList Try.prog ops Q (o :: rest) a w := by
  obtain ⟨i0, hi, hz0, hz1, hz2⟩ := info_parts Try.info5x
  have hzl := hr.1
  cases A with
  | none =>
    have h0 : m = 0 := by
      rcases Nat.eq_zero_or_pos m with h | h
      · exact h
      · obtain ⟨b, o, e, _⟩ := hr.2 h
        cases e
    subst h0
    obtain rfl := hr.nil_eq
    refine wpList_plain hgd fun K hK => ?_
    have hrun := run_app_nil (P := Try.prog) w base 38 o.type 5 i0 1 Try.underlying38 hi v _ _ hown.out c
    unfold Oper.wp
    simp [execOp, ho, resolve, invoke, builtin, hs, hx, hrun, Result.andThen]
    exact hK _ _ (h v w (by simpa using hown) (World.grownBy.refl w _) id)
  | some ad =>
    have hnews : ∀ j u, (byV z)[j]? = some u → w.cell? (ad.add j) = some u := by
      intro j u hj
      have hjn : j < z.length := by
        have := (List.getElem?_eq_some_iff.1 hj).1
        simpa using this
      obtain ⟨b, o, e, hc⟩ := hr.2 (by omega)
      obtain rfl := Option.some.inj e
      have e2 : (⟨b, o, none⟩ : Addr).add j = ⟨b, o + j, none⟩ := by unfold Addr.add; split <;> simp_all
      rw [e2, hc j hjn]
      simpa [List.getElem?_eq_getElem hjn] using hj
    unfold B47 at hsz
    refine wpList_append_own w hgd s x 38 ho base 5 i0 (.int .u8 0) 1 1 Try.underlying38 hi hz0 hz1 hz2 rfl (by decide) v y.length (byV y) hs hown.out ad m c (byV z) hx (by simp [byV]; omega) hnews
      (by intro u hu; obtain ⟨x, _, rfl⟩ := List.mem_map.1 hu; rfl) (by unfold maxLen; omega) (by omega) hbase ?_
    intro v' w' h1 h2 h3
    refine h v' w' ?_ h2 (fun e => (h3.1 e).1)
    unfold OwnB
    rw [List.length_append, hzl]
    simpa [byV] using h1

/-- 'append(out, b...)' of bytes, out the call's own, b any slice that reads. -/
theorem wp_app {ops : Array Oper} {rest : List Oper} {o : Oper} {a : Act} {w : World} {Q : Exit → Act → World → Prop} (hgd : o.guard = none) (s x : Operand)
    (ho : o.op = .call { callee := .builtin .append, args := #[s, x], argTypes := #[38, 38] })
    (base : Nat) (v : Value) (y : Bs) (hs : a.eval s = v) (hown : OwnB w base v y) (A : Option Addr) (m c : Nat) (z : Bs) (hx : a.eval x = .slice A m c) (hr : Rd w A m z)
    (hsz : y.length + z.length ≤ B47) (hbase : base ≤ w.heap.size)
    (h : ∀ v' w', OwnB w' base v' (y ++ z) → w.grownBy w' v.ownBlock → wpList Try.prog ops Q rest (a.put o.dst v') w') : wpList Try.prog ops Q (o :: rest) a w :=
  wp_app0 hgd s x ho base v y hs hown A m c z hx hr hsz hbase fun v' w' h1 h2 _ => h v' w' h1 h2

/-- 'append(out, b...)' of bytes, out the call's own, b any slice that reads. -/
theorem wp_app2 {ops : Array Oper} {rest : List Oper} {o : Oper} {a : Act} {w : World} {Q : Exit → Act → World → Prop} (hgd : o.guard = none) (s x : Operand)
    (ho : o.op = .call { callee := .builtin .append, args := #[s, x], argTypes := #[38, 38] })
    (base : Nat) (v : Value) (y : Bs) (hs : a.eval s = v) (hown : OwnB w base v y) (A : Option Addr) (m c : Nat) (z : Bs) (hx : a.eval x = .slice A m c) (hr : Rd w A m z)
    (hsz : y.length + z.length ≤ B47) (hbase : base ≤ w.heap.size)
    (h : ∀ A' n' c' w', OwnB w' base (.slice A' n' c') (y ++ z) → Rd w' A' n' (y ++ z) → n' ≤ c' → Hi base A' n' → (A' = none ∨ ∃ g, A' = some ⟨g, 0, none⟩) → (A' = none → v = .slice none 0 0) → w.grownBy w' v.ownBlock → wpList Try.prog ops Q rest (a.put o.dst (.slice A' n' c')) w') : wpList Try.prog ops Q (o :: rest) a w := by
  refine wp_app0 hgd s x ho base v y hs hown A m c z hx hr hsz hbase fun v' w' h1 h2 h3 => ?_
  rcases h1.out.2 with ⟨hv, h0⟩ | ⟨g, cap, cur, hv, hb, hg, hle, _⟩
  · subst hv
    have hz : y ++ z = [] := List.eq_nil_of_length_eq_zero h0
    rw [hz] at h1 h
    exact h none 0 0 w' h1 (Rd.nil _ _) (Nat.le_refl _) (fun hn => absurd hn (by omega)) (.inl rfl) (fun _ => h3 rfl) h2
  · subst hv
    exact h _ _ _ w' h1 (Rd.of_own h1.out) hle (Hi.of_own h1.out) (.inr ⟨g, rfl⟩) (fun e => by cases e) h2



end Go.Proofs.Yteooaplimiifiaa
