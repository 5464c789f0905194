/- Contracts of wire's writers: spell, Number, Bytes, Join. Conditions: sizes within the reach. -/
import Derived.Test.YteooaplimiifiaaGreatKeyA
import Derived.Test.YteooaplimiifiaaGreatWireM
import Derived.Maps.AppendAt
namespace Go.Proofs.YteooaplimiifiaaGreat
set_option linter.unusedSimpArgs false
set_option linter.unusedVariables false
set_option maxRecDepth 100000
open Go.RowKit

abbrev byV (x : Bs) : List Value := x.map fun b => .int .u8 (b.toNat : Int)

/-- What the layers' lengths stay within. -/
def B40 : Nat := 1099511627776

/-- The value owns, from block 'base' on, a row of just these bytes. -/
def OwnB (w : World) (base : Nat) (v : Value) (x : Bs) : Prop := w.ownsRow base 5 1 v x.length (byV x)
theorem OwnB.out {w : World} {base : Nat} {v : Value} {x : Bs} (h : OwnB w base v x) : w.ownsRow base 5 1 v x.length (byV x) := h
theorem OwnB.snoc {w : World} {base n : Nat} {v : Value} {x : Bs} {b : UInt8} {u : Value} (h : w.ownsRow base 5 1 v n (byV x ++ [u])) (hn : n = x.length + 1) (hu : u = .int .u8 (b.toNat : Int)) : OwnB w base v (x ++ [b]) := by
  unfold OwnB
  subst hn hu
  simpa [byV] using h
theorem OwnB.nil (w : World) (base : Nat) : OwnB w base (.slice none 0 0) [] := World.ownsRow_nil _ _ _ _
theorem OwnB.form {w : World} {base : Nat} {v : Value} {x : Bs} (h : OwnB w base v x) : ∃ A c, v = .slice A x.length c ∧ x.length ≤ c ∧ Rd w A x.length x ∧ Hi base A x.length := by
  obtain ⟨A, c, rfl, hc⟩ := own_form h.out
  exact ⟨A, c, rfl, hc, Rd.of_own h.out, Hi.of_own h.out⟩

theorem OwnB.mono {w : World} {base base' : Nat} {v : Value} {x : Bs} (h : OwnB w base v x) (hb : base' ≤ base) : OwnB w base' v x := by
  refine ⟨h.out.1, ?_⟩
  rcases h.out.2 with hn | ⟨g, cap, cur, e, hg, rest⟩
  · exact .inl hn
  · exact .inr ⟨g, cap, cur, e, Nat.le_trans hb hg, rest⟩

theorem OwnB.formN {w : World} {base : Nat} {v : Value} {x : Bs} (h : OwnB w base v x) : ∃ A n c, v = .slice A n c ∧ n ≤ c ∧ Rd w A n x ∧ Hi base A n := by
  obtain ⟨A, c, rfl, h1, h2, h3⟩ := h.form
  exact ⟨A, _, c, rfl, h1, h2, h3⟩

set_option maxRecDepth 100000 in
set_option maxHeartbeats 800000 in
theorem spell_any (base : Nat) (v0 : Value) (x : Bs) (n : Nat) (w : World) (hb : base ≤ w.heap.size) (hn : n < 18446744073709551616) (h0 : OwnB w base v0 x) (hl : x.length + 10 ≤ B47) :
    Calls Tryz.prog 53 #[v0, .int .u64 n] w fun e w' => ∃ v', e = .returned v' ∧ OwnB w' base v' (x ++ numB n) ∧ Below base w w' := by
  obtain ⟨i0, hi, hz0, hz1, hz2⟩ := info_parts Tryz.info5x
  have hn10 : n < 128 ^ 10 := Nat.lt_of_lt_of_le hn (by decide)
  go_enter Tryz.func53, Tryz.ntmps53
  go_wp2
  go_loopw [0, 1] (fun v t wr => ∃ (p : Bs) (m f : Nat), t = .int .u64 m ∧ m ≤ n ∧ m < 128 ^ (f + 1) ∧ p.length + f + 1 = 10 ∧ p ++ numF (f + 1) m = numB n ∧ OwnB wr base v (x ++ p) ∧ Below base w wr) (fun _ t _ => (intOf t).toNat)
  case atStart => exact ⟨[], n, 9, rfl, Nat.le_refl _, hn10, rfl, rfl, by simpa using h0, Below.refl _ _⟩
  case round =>
    obtain ⟨p, m, f, rfl, hmn, hm, hpf, he, hown, hbel⟩ := hrel
    have hsz : (x ++ p).length + 1 ≤ B47 := by rw [List.length_append]; omega
    unfold B47 at hsz
    have hm64 : m < 18446744073709551616 := by omega
    have HE := Lib.hid he
    have HM := Lib.hid hm
    have HP := Lib.hid hpf
    have HN := Lib.hid hmn
    clear he hm hpf hmn hn10 hn
    obtain ⟨y, hy⟩ : ∃ y, y = x ++ p := ⟨_, rfl⟩
    rw [← hy] at hown hsz
    have HY := Lib.hid hy
    clear hy
    have hbs : base ≤ wr.heap.size := Nat.le_trans hb hbel.size
    have hlb := hown.out.lt
    by_cases hlt : m < 128
    · have hlt' : ¬ (128 : Int) ≤ (m : Int) := by omega
      have hlt2 : (m : Int) < 128 := by omega
      go_wp2_with (at_builtin; refine wpList_append_own _ rfl _ _ 35 rfl base 5 i0 (.int .u8 0) 1 1 Tryz.underlying35 hi hz0 hz1 hz2 rfl (by decide) _ _ _ rfl (hown.out.alloc _) ⟨wr.heap.size, 0, none⟩ 1 1 [.int .u8 (m : Int)] rfl rfl (cell_one_new _ _ _) (by simp [Value.oneCell']) (by unfold maxLen; omega) (by omega) (by simp; omega) ?_; intro v' w1 hown' hgrow' hnil')
      go_ret
      refine ⟨v', rfl, ?_, ?_⟩
      · rw [← HE.out, numF_lt hlt, ← List.append_assoc, ← HY.out]
        exact OwnB.snoc hown' rfl (by rw [u8_of hlt])
      · exact (hbel.alloc hbs _).grown hgrow' (by simp; omega) (fun k hk => (hlb k (by simpa [Act.eval] using hk)).1)
    · have hlt' : (128 : Int) ≤ (m : Int) := by omega
      have hor := or128m m
      go_wp2_with (at_builtin; refine wpList_append_own _ rfl _ _ 35 rfl base 5 i0 (.int .u8 0) 1 1 Tryz.underlying35 hi hz0 hz1 hz2 rfl (by decide) _ _ _ rfl (hown.out.alloc _) ⟨wr.heap.size, 0, none⟩ 1 1 [.int .u8 (128 + (m : Int) % 128)] rfl rfl (cell_one_new _ _ _) (by simp [Value.oneCell']) (by unfold maxLen; omega) (by omega) (by simp; omega) ?_; intro v' w1 hown' hgrow' hnil')
      go_roundw
      case rel =>
        have hm := HM.out
        have hp := HP.out
        have hn := HN.out
        obtain ⟨f, rfl⟩ : ∃ g, f = g + 1 := by
          cases f with
          | zero => exact absurd hm (by simpa using hlt)
          | succ g => exact ⟨g, rfl⟩
        refine ⟨p ++ [UInt8.ofNat (128 + m % 128)], m / 128, f, ?_, by omega, ?_, by simp; omega, ?_, ?_, ?_⟩
        · go_num
        · rw [Nat.pow_succ] at hm; omega
        · rw [← HE.out, numF_ge hlt, List.append_assoc]; rfl
        · rw [← List.append_assoc, ← HY.out]
          exact OwnB.snoc hown' rfl (by rw [u8_add])
        · exact (hbel.alloc hbs _).grown hgrow' (by simp; omega) (fun k hk => (hlb k (by simpa [Act.eval] using hk)).1)
      case measure => simp [intOf]; omega

theorem run_app_nil {P : Program} (w : World) (base : Nat) (t ty e : TypeId) (i : TypeInfo) (size : Nat) (ht : P.underlying t = some (.slice e)) (hi : P.info? e = some i)
    (v : Value) (n : Nat) (xs : List Value) (hown : w.ownsRow base e size v n xs) (c : Nat) : (Builtin.append_ #[t, t] ty #[v, .slice none 0 c]).run P w = .ok v w := by
  rcases hown.2 with ⟨rfl, rfl⟩ | ⟨g, cap, cur, rfl, _, _, hnc, _⟩
  · simp [Builtin.append_, run_underlying ht, sizeOf, typeInfo, hi, Builtin.lenOf, Builtin.firstCells]
  · simp [Builtin.append_, run_underlying ht, sizeOf, typeInfo, hi, Builtin.lenOf, Builtin.firstCells, hnc, storeCells]

/-- 'append(out, b...)' of bytes, out the call's own, b any slice that reads. -/
theorem wp_app0 {ops : Array Oper} {rest : List Oper} {o : Oper} {a : Act} {w : World} {Q : Exit → Act → World → Prop} (hgd : o.guard = none) (s x : Operand)
    (ho : o.op = .call { callee := .builtin .append, args := #[s, x], argTypes := #[35, 35] })
    (base : Nat) (v : Value) (y : Bs) (hs : a.eval s = v) (hown : OwnB w base v y) (A : Option Addr) (m c : Nat) (z : Bs) (hx : a.eval x = .slice A m c) (hr : Rd w A m z)
    (hsz : y.length + z.length ≤ B47) (hbase : base ≤ w.heap.size)
    (h : ∀ v' w', OwnB w' base v' (y ++ z) → w.grownBy w' v.ownBlock → (v' = .slice none 0 0 → v = .slice none 0 0) → wpList Tryz.prog ops Q rest (a.put o.dst v') w') : wpList Tryz.prog ops Q (o :: rest) a w := by
  obtain ⟨i0, hi, hz0, hz1, hz2⟩ := info_parts Tryz.info5x
  have hzl := hr.1
  cases A with
  | none =>
    have h0 : m = 0 := by
      rcases Nat.eq_zero_or_pos m with h | h
      · exact h
      · obtain ⟨b, o, e, _⟩ := hr.2 h
        cases e
    subst h0
    obtain rfl := hr.nil_eq
    refine wpList_plain hgd fun K hK => ?_
    have hrun := run_app_nil (P := Tryz.prog) w base 35 o.type 5 i0 1 Tryz.underlying35 hi v _ _ hown.out c
    unfold Oper.wp
    simp [execOp, ho, resolve, invoke, builtin, hs, hx, hrun, Result.andThen]
    exact hK _ _ (h v w (by simpa using hown) (World.grownBy.refl w _) id)
  | some ad =>
    have hnews : ∀ j u, (byV z)[j]? = some u → w.cell? (ad.add j) = some u := by
      intro j u hj
      have hjn : j < z.length := by
        have := (List.getElem?_eq_some_iff.1 hj).1
        simpa using this
      obtain ⟨b, o, e, hc⟩ := hr.2 (by omega)
      obtain rfl := Option.some.inj e
      have e2 : (⟨b, o, none⟩ : Addr).add j = ⟨b, o + j, none⟩ := by unfold Addr.add; split <;> simp_all
      rw [e2, hc j hjn]
      simpa [List.getElem?_eq_getElem hjn] using hj
    unfold B47 at hsz
    refine wpList_append_own w hgd s x 35 ho base 5 i0 (.int .u8 0) 1 1 Tryz.underlying35 hi hz0 hz1 hz2 rfl (by decide) v y.length (byV y) hs hown.out ad m c (byV z) hx (by simp [byV]; omega) hnews
      (by intro u hu; obtain ⟨x, _, rfl⟩ := List.mem_map.1 hu; rfl) (by unfold maxLen; omega) (by omega) hbase ?_
    intro v' w' h1 h2 h3
    refine h v' w' ?_ h2 (fun e => (h3.1 e).1)
    unfold OwnB
    rw [List.length_append, hzl]
    simpa [byV] using h1

/-- 'append(out, b...)' of bytes, out the call's own, b any slice that reads. -/
theorem wp_app {ops : Array Oper} {rest : List Oper} {o : Oper} {a : Act} {w : World} {Q : Exit → Act → World → Prop} (hgd : o.guard = none) (s x : Operand)
    (ho : o.op = .call { callee := .builtin .append, args := #[s, x], argTypes := #[35, 35] })
    (base : Nat) (v : Value) (y : Bs) (hs : a.eval s = v) (hown : OwnB w base v y) (A : Option Addr) (m c : Nat) (z : Bs) (hx : a.eval x = .slice A m c) (hr : Rd w A m z)
    (hsz : y.length + z.length ≤ B47) (hbase : base ≤ w.heap.size)
    (h : ∀ v' w', OwnB w' base v' (y ++ z) → w.grownBy w' v.ownBlock → wpList Tryz.prog ops Q rest (a.put o.dst v') w') : wpList Tryz.prog ops Q (o :: rest) a w :=
  wp_app0 hgd s x ho base v y hs hown A m c z hx hr hsz hbase fun v' w' h1 h2 _ => h v' w' h1 h2

/-- 'append(out, b...)' of bytes, out the call's own, b any slice that reads. -/
theorem wp_app2 {ops : Array Oper} {rest : List Oper} {o : Oper} {a : Act} {w : World} {Q : Exit → Act → World → Prop} (hgd : o.guard = none) (s x : Operand)
    (ho : o.op = .call { callee := .builtin .append, args := #[s, x], argTypes := #[35, 35] })
    (base : Nat) (v : Value) (y : Bs) (hs : a.eval s = v) (hown : OwnB w base v y) (A : Option Addr) (m c : Nat) (z : Bs) (hx : a.eval x = .slice A m c) (hr : Rd w A m z)
    (hsz : y.length + z.length ≤ B47) (hbase : base ≤ w.heap.size)
    (h : ∀ A' n' c' w', OwnB w' base (.slice A' n' c') (y ++ z) → Rd w' A' n' (y ++ z) → n' ≤ c' → Hi base A' n' → (A' = none ∨ ∃ g, A' = some ⟨g, 0, none⟩) → (A' = none → v = .slice none 0 0) → w.grownBy w' v.ownBlock → wpList Tryz.prog ops Q rest (a.put o.dst (.slice A' n' c')) w') : wpList Tryz.prog ops Q (o :: rest) a w := by
  refine wp_app0 hgd s x ho base v y hs hown A m c z hx hr hsz hbase fun v' w' h1 h2 h3 => ?_
  rcases h1.out.2 with ⟨hv, h0⟩ | ⟨g, cap, cur, hv, hb, hg, hle, _⟩
  · subst hv
    have hz : y ++ z = [] := List.eq_nil_of_length_eq_zero h0
    rw [hz] at h1 h
    exact h none 0 0 w' h1 (Rd.nil _ _) (Nat.le_refl _) (fun hn => absurd hn (by omega)) (.inl rfl) (fun _ => h3 rfl) h2
  · subst hv
    exact h _ _ _ w' h1 (Rd.of_own h1.out) hle (Hi.of_own h1.out) (.inr ⟨g, rfl⟩) (fun e => by cases e) h2

set_option maxHeartbeats 400000 in
theorem number_any (n : Nat) (w : World) (hn : n < 18446744073709551616) :
    Calls Tryz.prog 52 #[.int .u64 n] w fun e w' => ∃ v', e = .returned v' ∧ OwnB w' w.heap.size v' (numB n) ∧ Ext w w' := by
  have hc := fun W => spell_any w.heap.size (.slice none 0 0) [] n W
  have HC := Lib.hid hc
  have HN := Lib.hid hn
  clear hc hn
  go_enter Tryz.func52, Tryz.ntmps52
  go_wp2_with (go_at_call 53; refine (HC.out _ (Nat.le_refl _) HN.out (OwnB.nil _ _) (by decide)).mono ?_; rintro e w' ⟨v', rfl, h1, h2⟩)
  go_ret
  exact ⟨_, rfl, by simpa using h1, h2⟩

set_option maxRecDepth 100000 in
set_option maxHeartbeats 800000 in
theorem wbytes_any (A : Option Addr) (n c : Nat) (x : Bs) (w : World) (hx : Rd w A n x) (hn : n ≤ B40) :
    Calls Tryz.prog 33 #[.slice A n c] w fun e w' => ∃ v', e = .returned v' ∧ OwnB w' w.heap.size v' (bytB x) ∧ Ext w w' := by
  obtain ⟨i0, hi, hz0, hz1, hz2⟩ := info_parts Tryz.info5x
  have hl := hx.1
  unfold B40 at hn
  have HX := Lib.hid hx
  have HL := Lib.hid hl
  clear hx hl
  have hu : n < 18446744073709551616 := by omega
  have hc := fun W base v => spell_any base v [] n W
  have HC := Lib.hid hc
  clear hc
  go_enter Tryz.func33, Tryz.ntmps33
  go_wp2_with (refine wpList_make_own _ rfl _ _ 35 rfl w.heap.size 5 i0 (.int .u8 0) 1 Tryz.underlying35 hi hz0 hz1 .i64 .i64 ((n : Int) + 10) (n + 10) rfl rfl (by omega) (by rw [hz2]; omega) (by unfold maxLen; omega) (Nat.le_refl _) ?_; intro w1 h1 h2)
  refine (HC.out _ w.heap.size _ h2.size hu h1 (by decide)).mono ?_
  rintro e w2 ⟨v2, rfl, h3, h4⟩
  have hx1 : Ext w w2 := (Ext.grown (Ext.rfl_ w) h2 (fun k hk => by cases hk)).trans' h4
  have hr := HX.out.ext hx1
  have hnl := numB_length n
  have HR := Lib.hid hr
  have hlb := h3.out.lt
  clear hr
  rw [List.nil_append] at h3
  go_wp2_with (refine wp_app rfl _ _ rfl w.heap.size v2 (numB n) rfl h3 A n c x rfl HR.out (by rw [HL.out]; unfold B47; omega) (Ext.size hx1) ?_; intro v3 w3 h5 h6)
  go_ret
  refine ⟨v3, rfl, ?_, ?_⟩
  · unfold bytB; rw [HL.out]; exact h5
  · exact hx1.grown h6 (fun k hk => (hlb k hk).1)

end Go.Proofs.YteooaplimiifiaaGreat
