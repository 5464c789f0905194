/- edit.Do: what comes of a version by an edit. Conditions: both read, and are not too long. -/
import Derived.Test.YteooaplimiifiaaGreatEdSort
import Derived.Test.YteooaplimiifiaaGreatEdDelG
namespace Go.Proofs.YteooaplimiifiaaGreat
set_option linter.unusedSimpArgs false
set_option linter.unusedVariables false
set_option maxRecDepth 100000
open Go.RowKit

theorem enter_drop : ∀ args w, (callFunc 19 args).run Tryz.prog w = .ok (.enter 19 args) w := enters_of Tryz.func19 (by kernel_rfl) rfl

/-- What Do's closure needs: the variable's cell, the set. -/
def InvD (q b : Nat) (S : List Int) (w : World) : Prop := w.cell? ⟨q, 0, none⟩ = some (.map (some b)) ∧ SetM w b S
theorem saysD (q b : Nat) (S : List Int) : SaysT 19 #[.pointer (some ⟨q, 0, none⟩)] (fun t => decide (t.num ∈ S)) (InvD q b S) :=
  fun v t w hi hr => drop_any v t q b S w hr hi.1 hi.2
theorem keepsD {q b : Nat} {S : List Int} {row : Option Nat} (hq : row ≠ some q) (hb : row ≠ some b) : KeepsT row (InvD q b S) := fun w w' hi hg => by
  refine ⟨?_, hi.2.kept hg (fun e => hb e.symm)⟩
  have h := hi.1
  have hbl := hg.block q (cell_lt h) (fun e => hq e.symm)
  unfold World.cell? at *
  rw [hbl]
  exact h

theorem five_blocks (w : World) (o0 o1 o2 o3 o4 : Obj) : ((((((w.alloc o0).alloc o1).alloc o2).alloc o3).alloc o4).heap[w.heap.size]? = some o0) ∧ ((((((w.alloc o0).alloc o1).alloc o2).alloc o3).alloc o4).heap[w.heap.size + 1]? = some o1) ∧
    ((((((w.alloc o0).alloc o1).alloc o2).alloc o3).alloc o4).heap[w.heap.size + 1 + 1]? = some o2) ∧ ((((((w.alloc o0).alloc o1).alloc o2).alloc o3).alloc o4).heap[w.heap.size + 1 + 1 + 1 + 1]? = some o4) ∧ (((((w.alloc o0).alloc o1).alloc o2).alloc o3).alloc o4).heap.size = w.heap.size + 5 := by
  have hp : ∀ (w : World) (o : Obj), (w.alloc o).heap = w.heap.push o := fun _ _ => rfl
  simp only [hp, Array.getElem?_push, Array.size_push]
  refine ⟨?_, ?_, ?_, ?_, trivial⟩ <;> (repeat (first | rfl | rw [if_neg (by omega)]))

theorem box6 {w' : World} {g : Nat} {t : TypeId} {a b c d e f : Value} (h : w'.heap[g]? = some (.cells #[a, b, c, d, e, f] t (0, 0))) :
    w'.cell? ⟨g, 0, none⟩ = some a ∧ w'.cell? ⟨g, 1, none⟩ = some b ∧ w'.cell? ⟨g, 2, none⟩ = some c ∧ w'.cell? ⟨g, 3, none⟩ = some d ∧ w'.cell? ⟨g, 4, none⟩ = some e ∧ w'.cell? ⟨g, 5, none⟩ = some f := by
  simp [World.cell?, h]
/-- What lay ahead of the row lies as it lay. -/
theorem do_keep {wr w1 w2 w3 : World} {row : Option Nat} (h1 : Ext wr w1) (h2 : Ext wr w2) (hz : w1.heap.size ≤ w2.heap.size) (hg : w2.grownBy w3 row) (hl : ∀ k, row = some k → w1.heap.size ≤ k) : ∀ (q : Nat) (o : Obj), wr.heap[q]? = some o → w3.heap[q]? = some o := fun q o h => by
  have hq := (Array.getElem?_eq_some_iff.1 h).1
  have h1s := h1.size
  exact (hg.block q (by omega) (fun e => by have := hl q e.symm; omega)).trans (((Ext.below h2).block q hq).trans h)
theorem heap_set (w : World) (g i : Nat) (u : Value) (cs : Array Value) (t : TypeId) (h : w.heap[g]? = some (.cells cs t (0, 0))) : (w.setCell ⟨g, i, none⟩ u).heap[g]? = some (.cells (cs.setIfInBounds i u) t (0, 0)) := by
  simp [World.setCell, Array.getElem?_modify, h]
theorem set5 {w : World} {g : Nat} {a0 a1 a2 a3 a4 : Value} {t : TypeId} (h : w.heap[g]? = some (.cells #[a0, a1, a2, a3, a4] t (0, 0))) (b0 b1 b2 b3 b4 : Value) :
    (((((w.setCell ⟨g, 0, none⟩ b0).setCell ⟨g, 1, none⟩ b1).setCell ⟨g, 2, none⟩ b2).setCell ⟨g, 3, none⟩ b3).setCell ⟨g, 4, none⟩ b4).heap[g]? = some (.cells #[b0, b1, b2, b3, b4] t (0, 0)) :=
  heap_set _ _ _ _ _ _ (heap_set _ _ _ _ _ _ (heap_set _ _ _ _ _ _ (heap_set _ _ _ _ _ _ (heap_set _ _ _ _ _ _ h))))
theorem extSet5 {a w : World} (h : Ext a w) {g : Nat} (hg : a.heap.size ≤ g) (b0 b1 b2 b3 b4 : Value) : Ext a (((((w.setCell ⟨g, 0, none⟩ b0).setCell ⟨g, 1, none⟩ b1).setCell ⟨g, 2, none⟩ b2).setCell ⟨g, 3, none⟩ b3).setCell ⟨g, 4, none⟩ b4) :=
  ((((h.setCell hg _).setCell hg _).setCell hg _).setCell hg _).setCell hg _

/-- A value of type api.Version that reads as x; its row is the call's own. -/
def RdVO (w : World) (v : Value) (x : Ver) : Prop :=
  ∃ base A n c, v = .agg #[.int .i64 x.next, .int .i64 x.log, .int .i64 x.index, .int .i64 x.seq, .slice A n c] ∧ OwnT w base (.slice A n c) x.ts ∧ x.ts.length ≤ B47
theorem RdVO.rd {w : World} {v : Value} {x : Ver} (h : RdVO w v x) : RdV w v x := by
  obtain ⟨base, A, n, c, rfl, ho, hb⟩ := h
  obtain ⟨_, _, e, h1, h2, _⟩ := ho.form hb
  injection e with e1 e2 e3
  subst e1 e2 e3
  exact ⟨_, _, _, rfl, h2, h1⟩

theorem hide_w {α : Type} {Q : α → World → Prop} {a : α} {W : World} (p : World → Prop) (hp : p W) (h : ∀ W', p W' → Q a W') : Q a W := h W hp
theorem grow_set (w : World) (o i : Nat) (u : Value) : w.grownBy (w.setCell ⟨o, i, none⟩ u) (some o) :=
  ⟨rfl, rfl, rfl, by simp [World.setCell], fun k _ hne => Below.heap_setCell w ⟨o, i, none⟩ u _ (fun e => hne (by rw [e]))⟩
theorem grown5 (w : World) (g : Nat) (b0 b1 b2 b3 b4 : Value) : w.grownBy (((((w.setCell ⟨g, 0, none⟩ b0).setCell ⟨g, 1, none⟩ b1).setCell ⟨g, 2, none⟩ b2).setCell ⟨g, 3, none⟩ b3).setCell ⟨g, 4, none⟩ b4) (some g) :=
  ((((grow_set _ _ _ _).trans_ (grow_set _ _ _ _)).trans_ (grow_set _ _ _ _)).trans_ (grow_set _ _ _ _)).trans_ (grow_set _ _ _ _)
/-- A block of another type is not the row. -/
theorem OwnT.apart {w : World} {base : Nat} {v : Value} {xs : List Tab} (h : OwnT w base v xs) {o : Nat} {cs : Array Value} {t : TypeId} {fr : Nat × Nat} (ho : w.heap[o]? = some (.cells cs t fr)) (ht : t ≠ 42) : some o ≠ v.ownBlock := by
  obtain ⟨hs, hl, hr, _⟩ := h
  rcases hr.2 with ⟨rfl, _⟩ | ⟨g, cap, cur, rfl, _, hg, _⟩
  · simp [Value.ownBlock]
  · intro e
    simp [Value.ownBlock] at e
    subst e
    rw [hg] at ho
    injection ho with e
    injection e with _ e _
    exact ht e.symm
theorem noU8 : ∀ i : Nat, ∀ z : Int, (#[Value.int .i64 0, .int .i64 0, .int .i64 0, .int .i64 0, .slice none 0 0] : Array Value)[i]? ≠ some (.int .u8 z) := by
  intro i z
  match i with
  | 0 => simp
  | 1 => simp
  | 2 => simp
  | 3 => simp
  | 4 => simp
  | i + 5 => simp
/-- What changes in a block of another type leaves the row. -/
theorem OwnT.other {w w' : World} {base : Nat} {v : Value} {xs : List Tab} (h : OwnT w base v xs) {o : Nat} {cs : Array Value} {t : TypeId} {fr : Nat × Nat} (ho : w.heap[o]? = some (.cells cs t fr)) (ht : t ≠ 42) (h8 : t ≠ 5) (hb : ∀ i : Nat, ∀ z : Int, cs[i]? ≠ some (.int .u8 z)) (hg : w.grownBy w' (some o)) : OwnT w' base v xs := by
  have hap := h.apart ho ht
  obtain ⟨hs, hl, hr, he⟩ := h
  have hA : ∀ {A : Option Addr} {n : Nat} {b : Bs}, Rd w A n b → Apt w base A n → Rd w' A n b ∧ Apt w' base A n := by
    intro A n b hrd ha
    have hne : 0 < n → ∀ a, A = some a → a.block ≠ o := fun hn a ea e => by
      obtain ⟨b', o', e', hc⟩ := hrd.2 hn
      rw [ea] at e'
      cases e'
      have h := hc 0 (by rw [hrd.1]; exact hn)
      simp only at e
      subst e
      unfold World.cell? at h
      simp only [ho] at h
      exact hb _ _ h
    refine ⟨⟨hrd.1, fun hn => ?_⟩, fun hn a ea => ?_⟩
    · obtain ⟨b', o', e, hc⟩ := hrd.2 hn
      refine ⟨b', o', e, fun j hj => ?_⟩
      have hbl := hg.block b' (cell_lt (hc j hj)) (fun e2 => hne hn _ e (Option.some.inj e2))
      have := hc j hj
      unfold World.cell? at *
      rw [hbl]; exact this
    · rcases ha hn a ea with h | ⟨cs', fr', h⟩
      · exact .inl h
      · exact .inr ⟨cs', fr', (hg.block _ (Array.getElem?_eq_some_iff.1 h).1 (fun e2 => hne hn a ea (Option.some.inj e2))).trans h⟩
  refine ⟨hs, hl, hr.kept hg ?_, fun k h1 h2 => ?_⟩
  · rcases hr.2 with ⟨rfl, _⟩ | _
    · exact .inl rfl
    · exact .inr (fun e => hap e.symm)
  · obtain ⟨⟨A, n, c, A', n', c', hv, r1, r2, r3⟩, a1, a2⟩ := he k h1 h2
    simp [cellsT] at hv
    obtain ⟨⟨e1, e2, e3⟩, e4, e5, e6⟩ := hv
    rw [← e1, ← e2] at r1
    rw [← e4, ← e5] at r2
    obtain ⟨p1, p2⟩ := hA r1 a1
    obtain ⟨p3, p4⟩ := hA r2 a2
    exact ⟨⟨_, _, _, _, _, _, rfl, p1, p3, by rw [e2, e3, e5, e6]; exact r3⟩, p2, p4⟩

theorem ownT_ver (y : Edt) {w : World} {base n c : Nat} {A : Option Addr} {S : List Tab} (h : OwnT w base (.slice A n c) S) (hn : S.length = n) (hb : n ≤ B47) :
    Hid (RdV w (.agg #[.int .i64 y.next, .int .i64 y.log, .int .i64 y.index, .int .i64 y.seq, .slice A n c]) (outT y S)) := by
  obtain ⟨_, _, e, h1, h2, _⟩ := h.form (by omega)
  injection e with e1 e2 e3
  subst e1 e3 hn
  exact Lib.hid ⟨_, _, _, rfl, h2, h1⟩

set_option maxRecDepth 100000 in
set_option maxHeartbeats 8000000 in
theorem do_any (v e : Value) (x : Ver) (y : Edt) (w : World) (hv : RdV w v x) (he : RdEd w e y) (hsx : x.ts.length ≤ 100000) (hsd : y.drop.length ≤ 100000) (hsa : y.add.length ≤ 100000) :
    Calls Tryz.prog 7 #[v, e] w fun r w' => ∃ u z err, r = .returned (.tuple #[u, .int .i64 err]) ∧ RdVO w' u z ∧ DoR x y z err ∧ Ext w w' := by
  obtain ⟨A, n, c, rfl, hl, hnc⟩ := hv
  obtain ⟨D, dn, dc, B, m, d, rfl, hd, hdc, ha, hmd⟩ := he
  obtain rfl : x.ts.length = n := hl.1
  obtain rfl : y.drop.length = dn := hd.1
  obtain rfl : y.add.length = m := ha.1
  have HL := Lib.hid hl
  have HD := Lib.hid hd
  have HA := Lib.hid ha
  clear hl hd ha
  have hmm := @run_makeMap Tryz.prog
  obtain ⟨W0, hW0⟩ : ∃ W0, W0 = ((((w.alloc (.cells #[.int .i64 x.next, .int .i64 x.log, .int .i64 x.index, .int .i64 x.seq, .slice A x.ts.length c] 24)).alloc
    (.cells #[.slice D y.drop.length dc, .slice B y.add.length d, .int .i64 y.next, .int .i64 y.log, .int .i64 y.index, .int .i64 y.seq] 28)).alloc
    (.cells #[.int .i64 0, .int .i64 0, .int .i64 0, .int .i64 0, .slice none 0 0] 24)).alloc (.map #[] 0)).alloc (.cells #[.map (some (w.heap.size + 1 + 1 + 1))] 48) := ⟨_, rfl⟩
  have X0 : Hid (Ext w W0) := Lib.hid (by rw [hW0]; exact (by with_reducible (repeat (first | exact Ext.rfl_ _ | assumption | refine Ext.drew ?_ | refine Ext.drewN ?_ _ | refine Ext.alloc ?_ _ | refine Ext.trans ?_ (by assumption)))))
  obtain ⟨h0, h1, h2, h4, hsz⟩ := five_blocks w (.cells #[.int .i64 x.next, .int .i64 x.log, .int .i64 x.index, .int .i64 x.seq, .slice A x.ts.length c] 24)
    (.cells #[.slice D y.drop.length dc, .slice B y.add.length d, .int .i64 y.next, .int .i64 y.log, .int .i64 y.index, .int .i64 y.seq] 28)
    (.cells #[.int .i64 0, .int .i64 0, .int .i64 0, .int .i64 0, .slice none 0 0] 24) (.map #[] 0) (.cells #[.map (some (w.heap.size + 1 + 1 + 1))] 48)
  have h3 : SetM (((((w.alloc (.cells #[.int .i64 x.next, .int .i64 x.log, .int .i64 x.index, .int .i64 x.seq, .slice A x.ts.length c] 24)).alloc
    (.cells #[.slice D y.drop.length dc, .slice B y.add.length d, .int .i64 y.next, .int .i64 y.log, .int .i64 y.index, .int .i64 y.seq] 28)).alloc
    (.cells #[.int .i64 0, .int .i64 0, .int .i64 0, .int .i64 0, .slice none 0 0] 24)).alloc (.map #[] 0)).alloc (.cells #[.map (some (w.heap.size + 1 + 1 + 1))] 48)) (w.heap.size + 1 + 1 + 1) [] := by
    have h := SetM.made (((w.alloc (.cells #[.int .i64 x.next, .int .i64 x.log, .int .i64 x.index, .int .i64 x.seq, .slice A x.ts.length c] 24)).alloc
      (.cells #[.slice D y.drop.length dc, .slice B y.add.length d, .int .i64 y.next, .int .i64 y.log, .int .i64 y.index, .int .i64 y.seq] 28)).alloc
      (.cells #[.int .i64 0, .int .i64 0, .int .i64 0, .int .i64 0, .slice none 0 0] 24))
    simp only [World.size_alloc] at h
    exact h.ext (Ext.alloc (Ext.rfl_ _) _)
  rw [← hW0] at h0 h1 h2 h3 h4 hsz
  have HB0 := Lib.hid h0
  have HB1 := Lib.hid h1
  have HB2 := Lib.hid h2
  have HB3 := Lib.hid h3
  have HB4 := Lib.hid h4
  have HSZ := Lib.hid hsz
  clear h0 h1 h2 h3 h4 hsz
  go_enter Tryz.func7, Tryz.ntmps7
  go_wp2
  rw [← hW0]
  clear hW0
  obtain ⟨q1, eq1⟩ : ∃ q, w.heap.size + 1 = q := ⟨_, rfl⟩
  rw [eq1] at HB1 HB2 HB3 HB4 ⊢
  obtain ⟨q2, eq2⟩ : ∃ q, q1 + 1 = q := ⟨_, rfl⟩
  rw [eq2] at HB2 HB3 HB4 ⊢
  obtain ⟨q3, eq3⟩ : ∃ q, q2 + 1 = q := ⟨_, rfl⟩
  rw [eq3] at HB3 HB4 ⊢
  obtain ⟨q4, eq4⟩ : ∃ q, q3 + 1 = q := ⟨_, rfl⟩
  rw [eq4] at HB4 ⊢
  have EQ : Hid (w.heap.size < q1 ∧ q1 < q2 ∧ q2 < q3 ∧ q3 < q4 ∧ q4 < W0.heap.size) := Lib.hid (by have := HSZ.out; omega)
  clear eq1 eq2 eq3 eq4 HSZ
  go_loopw [15] (fun i wr => ∃ k : Nat, i = .int .i64 k ∧ k ≤ y.drop.length ∧ Hid (W0.grownBy wr (some q3)) ∧ Hid (SetM wr q3 (y.drop.take k)) ∧ Hid (y.drop.take k).Nodup) (fun i _ => y.drop.length - (intOf i).toNat)
  case atStart => exact ⟨0, rfl, Nat.zero_le _, Lib.hid (World.grownBy.refl _ _), Lib.hid (by simpa using HB3.out), Lib.hid (by simp)⟩
  case round =>
    obtain ⟨k, rfl, hk, HG, HS, HN⟩ := hrel
    have E := EQ.out
    have X : Hid (Ext w wr) := Lib.hid (X0.out.grown HG.out (fun j e => by cases e; omega))
    have HC0 := Lib.hid ((HG.out.block _ (by omega) (by simp; omega)).trans HB0.out)
    have HC1 := Lib.hid ((HG.out.block _ (by omega) (by simp; omega)).trans HB1.out)
    have HC2 := Lib.hid ((HG.out.block _ (by omega) (by simp; omega)).trans HB2.out)
    have HC4 := Lib.hid ((HG.out.block _ (by omega) (by simp; omega)).trans HB4.out)
    have HE := Lib.hid E
    clear E
    obtain ⟨r0, r1, r2, r3, r4, s0, s1, s2, s3, s4⟩ := box5 HC2.out (Ext.rfl_ wr)
    have d4 : wr.cell? ⟨q4, 0, none⟩ = some (.map (some q3)) := by unfold World.cell?; rw [HC4.out]; rfl
    by_cases cc : (k : Int) < (y.drop.length : Int)
    · obtain ⟨b, o, z, rfl, hz, hI, hc⟩ := (HD.out.ext X.out).at_ k (by omega)
      have HZ := Lib.hid hz
      have HI := Lib.hid hI
      clear hz hI
      by_cases hm : z ∈ y.drop.take k
      · have HR : Hid (DoR x y nilV 2) := Lib.hid ⟨fun _ => ⟨rfl, rfl⟩, fun hn _ => absurd hn (by
          intro hn
          rw [← List.take_append_drop k y.drop] at hn
          have hz := HZ.out
          have h2 := (List.nodup_append.1 hn).2.2 z hm z (by
            obtain ⟨hl, e⟩ := List.getElem?_eq_some_iff.1 hz
            rw [List.drop_eq_getElem_cons hl, e]
            exact List.mem_cons_self)
          exact h2 rfl)⟩
        have d1 := decide_eq_true hm
        clear hm
        go_wp2_with (at_lookup; refine wp_setLook rfl _ _ rfl q3 _ HS.out rfl z HI.out rfl ?_; rw [d1]; refine wp_setIs rfl _ rfl _ rfl ?_)
        obtain ⟨z0, z1, z2, z3, z4, _⟩ := box5 (set5 HC2.out (.int .i64 0) (.int .i64 0) (.int .i64 0) (.int .i64 0) (.slice none 0 0)) (Ext.rfl_ _); refine bodyPost_ret (v := .tuple #[.agg #[.int .i64 0, .int .i64 0, .int .i64 0, .int .i64 0, .slice none 0 0], .int .i64 2]) (by simp [results, Tryz.f7, go_sem, z0, z1, z2, z3, z4]) rfl ?_; exact ⟨_, nilV, _, rfl, ⟨0, none, 0, 0, rfl, OwnT.nil _ _, Nat.zero_le _⟩, HR.out, extSet5 X.out (by have := EQ.out; omega) _ _ _ _ _⟩
      · have d1 := decide_eq_false hm
        have HM := Lib.hid hm
        clear hm
        go_wp2_with (first | (at_lookup; refine wp_setLook rfl _ _ rfl q3 _ HS.out rfl z HI.out rfl ?_; rw [d1]; refine wp_setIs rfl _ rfl _ rfl ?_) | (at_mapUpdate; refine wp_setPut rfl _ _ _ rfl q3 _ HS.out rfl z HI.out rfl rfl (by rw [List.length_take]; omega) HM.out ?_; intro w2 s2 g2; have HS2 := Lib.hid s2; have HG2 := Lib.hid (HG.out.trans_ g2); clear s2 g2))
        have HT : Hid (y.drop.take (k + 1) = y.drop.take k ++ [z]) := Lib.hid (by rw [List.take_add_one, HZ.out]; rfl)
        go_roundw
        case rel => exact ⟨k + 1, by simp, by omega, HG2, Lib.hid (by rw [HT.out]; exact HS2.out), Lib.hid (by rw [HT.out, List.nodup_append]; exact ⟨HN.out, by simp, fun a ha b hb e => HM.out (by simp at hb; subst hb; subst e; exact ha)⟩)⟩
        case measure => simp [intOf]; omega
    · have HND : Hid y.drop.Nodup := Lib.hid (by
        have h := HN.out
        rwa [List.take_of_length_le (by omega)] at h)
      have HSD : Hid (SetM wr q3 y.drop) := Lib.hid (by
        have h := HS.out
        rwa [List.take_of_length_le (by omega)] at h)
      have HGS := Lib.hid HG.out.size
      clear HS HN HG
      obtain ⟨v0, v1, v2, v3, v4, _⟩ := box5 HC0.out (Ext.rfl_ wr)
      have HRV : Hid (RdV wr (.agg #[.int .i64 x.next, .int .i64 x.log, .int .i64 x.index, .int .i64 x.seq, .slice A x.ts.length c]) x) := Lib.hid ⟨A, _, c, rfl, HL.out.ext X.out, hnc⟩
      by_cases hmay : MayT x
      rotate_left
      · have HR : Hid (DoR x y nilV 2) := Lib.hid ⟨fun _ => ⟨rfl, rfl⟩, fun _ h => absurd h hmay⟩
        have d1 : mayT x = false := (mayT_no hmay).symm
        clear hmay
        go_wp2_with (go_at_call 13; refine (emay_any _ x _ HRV.out (by omega)).mono ?_; rintro e w1 ⟨rfl, hw1⟩; rw [d1]; have X1 := Lib.hid (X.out.trans hw1); obtain ⟨r0, r1, r2, r3, r4, s0, s1, s2, s3, s4⟩ := box5 HC2.out hw1; have HC21 := Lib.hid (((Ext.below hw1).block _ (Array.getElem?_eq_some_iff.1 HC2.out).1).trans HC2.out))
        obtain ⟨z0, z1, z2, z3, z4, _⟩ := box5 (set5 HC21.out (.int .i64 0) (.int .i64 0) (.int .i64 0) (.int .i64 0) (.slice none 0 0)) (Ext.rfl_ _); refine bodyPost_ret (v := .tuple #[.agg #[.int .i64 0, .int .i64 0, .int .i64 0, .int .i64 0, .slice none 0 0], .int .i64 2]) (by simp [results, Tryz.f7, go_sem, z0, z1, z2, z3, z4]) rfl ?_; exact ⟨_, nilV, _, rfl, ⟨0, none, 0, 0, rfl, OwnT.nil _ _, Nat.zero_le _⟩, HR.out, extSet5 X1.out (by have := EQ.out; omega) _ _ _ _ _⟩
      have HMY := Lib.hid hmay
      have d1 : mayT x = true := (mayT_yes hmay).symm
      clear hmay
      have HZW : Hid (W0.heap.size ≤ wr.heap.size) := Lib.hid HGS.out
      have HD4 := Lib.hid d4
      have hkl := kept_found x y
      have hwp : IntKind.i64.wrap ((x.ts.length : Int) - (y.drop.length : Int)) = (x.ts.length : Int) - (y.drop.length : Int) := by rw [IntKind.wrap_i64]; omega
      by_cases k1 : ((keptT x y).length : Int) = (x.ts.length : Int) - (y.drop.length : Int)
      rotate_left
      · have HR : Hid (DoR x y nilV 9) := Lib.hid ⟨fun h => absurd ⟨HND.out, HMY.out⟩ h, fun _ _ => ⟨fun _ => ⟨rfl, rfl⟩, fun h => absurd h.1 k1⟩⟩
        have k1' : (((keptT x y).length : Int) == (x.ts.length : Int) - (y.drop.length : Int)) = false := by simp [k1]
        go_wp2_with (first | (go_at_call 13; refine (emay_any _ x _ HRV.out (by omega)).mono ?_; rintro e w1 ⟨rfl, hw1⟩; rw [d1]; have X1 := Lib.hid (X.out.trans hw1); have E1 := Lib.hid hw1; clear v0 v1 v2 v3 v4; obtain ⟨v0, v1, v2, v3, v4, _⟩ := box5 HC0.out hw1) | (go_at_call 14; refine (own_any A _ c x.ts _ (HL.out.ext X1.out) (by omega)).mono ?_; rintro e w2 ⟨va, rfl, ho, ho0, hw2⟩; have HO := Lib.hid ho; have HLT := Lib.hid (show ∀ k, va.ownBlock = some k → w1.heap.size ≤ k from fun k hk => (ho.lt k hk).1); have X2 := Lib.hid (X1.out.trans hw2); have E2 := Lib.hid (E1.out.trans hw2); have Z2 := Lib.hid hw2.size; clear ho ho0 v0 v1 v2 v3 v4) | (go_at_call 18; refine (delf_any w1.heap.size va x.ts 19 #[.pointer (some ⟨q4, 0, none⟩)] _ (InvD q4 q3 y.drop) _ HO.out (by omega) enter_drop (saysD q4 q3 y.drop) (keepsD (fun e => by have := HLT.out q4 e; have := E1.out.size; have := EQ.out; have := HZW.out; omega) (fun e => by have := HLT.out q3 e; have := E1.out.size; have := EQ.out; have := HZW.out; omega)) ⟨E2.out.keeps _ _ _ HD4.out, HSD.out.ext E2.out⟩).mono ?_; rintro e w3 ⟨vd, rfl, ho3, hg3, hi3⟩; have HK := Lib.hid (do_keep E1.out E2.out Z2.out hg3 HLT.out); have HO3 := Lib.hid (show OwnT w3 w1.heap.size vd (keptT x y) from ho3); obtain ⟨A3, c3, rfl, hc3, _⟩ := HO3.out.form (by have h := kept_found x y; unfold B47; omega); have X13 := hw2.grown hg3 HLT.out; have X3 := Lib.hid (X2.out.grown hg3 (fun k hk => Nat.le_trans X1.out.size (HLT.out k hk))); have HS3 := Lib.hid hi3.2; have h40 := hi3.1; have HC03 := Lib.hid (HK.out _ _ HC0.out); have HC13 := Lib.hid (HK.out _ _ HC1.out); have HC23 := Lib.hid (HK.out _ _ HC2.out); have L3 := Lib.hid hg3.size; obtain ⟨v0, v1, v2, v3, v4, _⟩ := box5 HC03.out (Ext.rfl_ w3); obtain ⟨y0, y1, y2, y3, y4, y5⟩ := box6 HC13.out; clear r0 r1 r2 r3 r4 s0 s1 s2 s3 s4; obtain ⟨r0, r1, r2, r3, r4, s0, s1, s2, s3, s4⟩ := box5 HC23.out (Ext.rfl_ w3); clear ho3 hg3 hi3) | (at_len; refine wp_setLen rfl _ rfl q3 y.drop HS3.out rfl ?_))
        obtain ⟨z0, z1, z2, z3, z4, _⟩ := box5 (set5 HC23.out (.int .i64 0) (.int .i64 0) (.int .i64 0) (.int .i64 0) (.slice none 0 0)) (Ext.rfl_ _); refine bodyPost_ret (v := .tuple #[.agg #[.int .i64 0, .int .i64 0, .int .i64 0, .int .i64 0, .slice none 0 0], .int .i64 9]) (by simp [results, Tryz.f7, go_sem, z0, z1, z2, z3, z4]) rfl ?_; exact ⟨_, nilV, _, rfl, ⟨0, none, 0, 0, rfl, OwnT.nil _ _, Nat.zero_le _⟩, HR.out, extSet5 X3.out (by have := EQ.out; omega) _ _ _ _ _⟩
      have k1' : (((keptT x y).length : Int) == (x.ts.length : Int) - (y.drop.length : Int)) = true := by simp [k1]
      have k1n : (((keptT x y).length : Int) != (x.ts.length : Int) - (y.drop.length : Int)) = false := by simp [k1]
      by_cases k2 : y.next < x.next
      · have HR : Hid (DoR x y nilV 9) := Lib.hid ⟨fun h => absurd ⟨HND.out, HMY.out⟩ h, fun _ _ => ⟨fun _ => ⟨rfl, rfl⟩, fun h => absurd k2 (by have := h.2.1; omega)⟩⟩
        go_wp2_with (first | (go_at_call 13; refine (emay_any _ x _ HRV.out (by omega)).mono ?_; rintro e w1 ⟨rfl, hw1⟩; rw [d1]; have X1 := Lib.hid (X.out.trans hw1); have E1 := Lib.hid hw1; clear v0 v1 v2 v3 v4; obtain ⟨v0, v1, v2, v3, v4, _⟩ := box5 HC0.out hw1) | (go_at_call 14; refine (own_any A _ c x.ts _ (HL.out.ext X1.out) (by omega)).mono ?_; rintro e w2 ⟨va, rfl, ho, ho0, hw2⟩; have HO := Lib.hid ho; have HLT := Lib.hid (show ∀ k, va.ownBlock = some k → w1.heap.size ≤ k from fun k hk => (ho.lt k hk).1); have X2 := Lib.hid (X1.out.trans hw2); have E2 := Lib.hid (E1.out.trans hw2); have Z2 := Lib.hid hw2.size; clear ho ho0 v0 v1 v2 v3 v4) | (go_at_call 18; refine (delf_any w1.heap.size va x.ts 19 #[.pointer (some ⟨q4, 0, none⟩)] _ (InvD q4 q3 y.drop) _ HO.out (by omega) enter_drop (saysD q4 q3 y.drop) (keepsD (fun e => by have := HLT.out q4 e; have := E1.out.size; have := EQ.out; have := HZW.out; omega) (fun e => by have := HLT.out q3 e; have := E1.out.size; have := EQ.out; have := HZW.out; omega)) ⟨E2.out.keeps _ _ _ HD4.out, HSD.out.ext E2.out⟩).mono ?_; rintro e w3 ⟨vd, rfl, ho3, hg3, hi3⟩; have HK := Lib.hid (do_keep E1.out E2.out Z2.out hg3 HLT.out); have HO3 := Lib.hid (show OwnT w3 w1.heap.size vd (keptT x y) from ho3); obtain ⟨A3, c3, rfl, hc3, _⟩ := HO3.out.form (by have h := kept_found x y; unfold B47; omega); have X13 := hw2.grown hg3 HLT.out; have X3 := Lib.hid (X2.out.grown hg3 (fun k hk => Nat.le_trans X1.out.size (HLT.out k hk))); have HS3 := Lib.hid hi3.2; have h40 := hi3.1; have HC03 := Lib.hid (HK.out _ _ HC0.out); have HC13 := Lib.hid (HK.out _ _ HC1.out); have HC23 := Lib.hid (HK.out _ _ HC2.out); have L3 := Lib.hid hg3.size; obtain ⟨v0, v1, v2, v3, v4, _⟩ := box5 HC03.out (Ext.rfl_ w3); obtain ⟨y0, y1, y2, y3, y4, y5⟩ := box6 HC13.out; clear r0 r1 r2 r3 r4 s0 s1 s2 s3 s4; obtain ⟨r0, r1, r2, r3, r4, s0, s1, s2, s3, s4⟩ := box5 HC23.out (Ext.rfl_ w3); clear ho3 hg3 hi3) | (at_len; refine wp_setLen rfl _ rfl q3 y.drop HS3.out rfl ?_))
        obtain ⟨z0, z1, z2, z3, z4, _⟩ := box5 (set5 HC23.out (.int .i64 0) (.int .i64 0) (.int .i64 0) (.int .i64 0) (.slice none 0 0)) (Ext.rfl_ _); refine bodyPost_ret (v := .tuple #[.agg #[.int .i64 0, .int .i64 0, .int .i64 0, .int .i64 0, .slice none 0 0], .int .i64 9]) (by simp [results, Tryz.f7, go_sem, z0, z1, z2, z3, z4]) rfl ?_; exact ⟨_, nilV, _, rfl, ⟨0, none, 0, 0, rfl, OwnT.nil _ _, Nat.zero_le _⟩, HR.out, extSet5 X3.out (by have := EQ.out; omega) _ _ _ _ _⟩
      by_cases k3 : y.log < x.log
      · have HR : Hid (DoR x y nilV 9) := Lib.hid ⟨fun h => absurd ⟨HND.out, HMY.out⟩ h, fun _ _ => ⟨fun _ => ⟨rfl, rfl⟩, fun h => absurd k3 (by have := h.2.2.1; omega)⟩⟩
        go_wp2_with (first | (go_at_call 13; refine (emay_any _ x _ HRV.out (by omega)).mono ?_; rintro e w1 ⟨rfl, hw1⟩; rw [d1]; have X1 := Lib.hid (X.out.trans hw1); have E1 := Lib.hid hw1; clear v0 v1 v2 v3 v4; obtain ⟨v0, v1, v2, v3, v4, _⟩ := box5 HC0.out hw1) | (go_at_call 14; refine (own_any A _ c x.ts _ (HL.out.ext X1.out) (by omega)).mono ?_; rintro e w2 ⟨va, rfl, ho, ho0, hw2⟩; have HO := Lib.hid ho; have HLT := Lib.hid (show ∀ k, va.ownBlock = some k → w1.heap.size ≤ k from fun k hk => (ho.lt k hk).1); have X2 := Lib.hid (X1.out.trans hw2); have E2 := Lib.hid (E1.out.trans hw2); have Z2 := Lib.hid hw2.size; clear ho ho0 v0 v1 v2 v3 v4) | (go_at_call 18; refine (delf_any w1.heap.size va x.ts 19 #[.pointer (some ⟨q4, 0, none⟩)] _ (InvD q4 q3 y.drop) _ HO.out (by omega) enter_drop (saysD q4 q3 y.drop) (keepsD (fun e => by have := HLT.out q4 e; have := E1.out.size; have := EQ.out; have := HZW.out; omega) (fun e => by have := HLT.out q3 e; have := E1.out.size; have := EQ.out; have := HZW.out; omega)) ⟨E2.out.keeps _ _ _ HD4.out, HSD.out.ext E2.out⟩).mono ?_; rintro e w3 ⟨vd, rfl, ho3, hg3, hi3⟩; have HK := Lib.hid (do_keep E1.out E2.out Z2.out hg3 HLT.out); have HO3 := Lib.hid (show OwnT w3 w1.heap.size vd (keptT x y) from ho3); obtain ⟨A3, c3, rfl, hc3, _⟩ := HO3.out.form (by have h := kept_found x y; unfold B47; omega); have X13 := hw2.grown hg3 HLT.out; have X3 := Lib.hid (X2.out.grown hg3 (fun k hk => Nat.le_trans X1.out.size (HLT.out k hk))); have HS3 := Lib.hid hi3.2; have h40 := hi3.1; have HC03 := Lib.hid (HK.out _ _ HC0.out); have HC13 := Lib.hid (HK.out _ _ HC1.out); have HC23 := Lib.hid (HK.out _ _ HC2.out); have L3 := Lib.hid hg3.size; obtain ⟨v0, v1, v2, v3, v4, _⟩ := box5 HC03.out (Ext.rfl_ w3); obtain ⟨y0, y1, y2, y3, y4, y5⟩ := box6 HC13.out; clear r0 r1 r2 r3 r4 s0 s1 s2 s3 s4; obtain ⟨r0, r1, r2, r3, r4, s0, s1, s2, s3, s4⟩ := box5 HC23.out (Ext.rfl_ w3); clear ho3 hg3 hi3) | (at_len; refine wp_setLen rfl _ rfl q3 y.drop HS3.out rfl ?_))
        obtain ⟨z0, z1, z2, z3, z4, _⟩ := box5 (set5 HC23.out (.int .i64 0) (.int .i64 0) (.int .i64 0) (.int .i64 0) (.slice none 0 0)) (Ext.rfl_ _); refine bodyPost_ret (v := .tuple #[.agg #[.int .i64 0, .int .i64 0, .int .i64 0, .int .i64 0, .slice none 0 0], .int .i64 9]) (by simp [results, Tryz.f7, go_sem, z0, z1, z2, z3, z4]) rfl ?_; exact ⟨_, nilV, _, rfl, ⟨0, none, 0, 0, rfl, OwnT.nil _ _, Nat.zero_le _⟩, HR.out, extSet5 X3.out (by have := EQ.out; omega) _ _ _ _ _⟩
      by_cases k4 : y.index < x.index
      · have HR : Hid (DoR x y nilV 9) := Lib.hid ⟨fun h => absurd ⟨HND.out, HMY.out⟩ h, fun _ _ => ⟨fun _ => ⟨rfl, rfl⟩, fun h => absurd k4 (by have := h.2.2.2.1; omega)⟩⟩
        go_wp2_with (first | (go_at_call 13; refine (emay_any _ x _ HRV.out (by omega)).mono ?_; rintro e w1 ⟨rfl, hw1⟩; rw [d1]; have X1 := Lib.hid (X.out.trans hw1); have E1 := Lib.hid hw1; clear v0 v1 v2 v3 v4; obtain ⟨v0, v1, v2, v3, v4, _⟩ := box5 HC0.out hw1) | (go_at_call 14; refine (own_any A _ c x.ts _ (HL.out.ext X1.out) (by omega)).mono ?_; rintro e w2 ⟨va, rfl, ho, ho0, hw2⟩; have HO := Lib.hid ho; have HLT := Lib.hid (show ∀ k, va.ownBlock = some k → w1.heap.size ≤ k from fun k hk => (ho.lt k hk).1); have X2 := Lib.hid (X1.out.trans hw2); have E2 := Lib.hid (E1.out.trans hw2); have Z2 := Lib.hid hw2.size; clear ho ho0 v0 v1 v2 v3 v4) | (go_at_call 18; refine (delf_any w1.heap.size va x.ts 19 #[.pointer (some ⟨q4, 0, none⟩)] _ (InvD q4 q3 y.drop) _ HO.out (by omega) enter_drop (saysD q4 q3 y.drop) (keepsD (fun e => by have := HLT.out q4 e; have := E1.out.size; have := EQ.out; have := HZW.out; omega) (fun e => by have := HLT.out q3 e; have := E1.out.size; have := EQ.out; have := HZW.out; omega)) ⟨E2.out.keeps _ _ _ HD4.out, HSD.out.ext E2.out⟩).mono ?_; rintro e w3 ⟨vd, rfl, ho3, hg3, hi3⟩; have HK := Lib.hid (do_keep E1.out E2.out Z2.out hg3 HLT.out); have HO3 := Lib.hid (show OwnT w3 w1.heap.size vd (keptT x y) from ho3); obtain ⟨A3, c3, rfl, hc3, _⟩ := HO3.out.form (by have h := kept_found x y; unfold B47; omega); have X13 := hw2.grown hg3 HLT.out; have X3 := Lib.hid (X2.out.grown hg3 (fun k hk => Nat.le_trans X1.out.size (HLT.out k hk))); have HS3 := Lib.hid hi3.2; have h40 := hi3.1; have HC03 := Lib.hid (HK.out _ _ HC0.out); have HC13 := Lib.hid (HK.out _ _ HC1.out); have HC23 := Lib.hid (HK.out _ _ HC2.out); have L3 := Lib.hid hg3.size; obtain ⟨v0, v1, v2, v3, v4, _⟩ := box5 HC03.out (Ext.rfl_ w3); obtain ⟨y0, y1, y2, y3, y4, y5⟩ := box6 HC13.out; clear r0 r1 r2 r3 r4 s0 s1 s2 s3 s4; obtain ⟨r0, r1, r2, r3, r4, s0, s1, s2, s3, s4⟩ := box5 HC23.out (Ext.rfl_ w3); clear ho3 hg3 hi3) | (at_len; refine wp_setLen rfl _ rfl q3 y.drop HS3.out rfl ?_))
        obtain ⟨z0, z1, z2, z3, z4, _⟩ := box5 (set5 HC23.out (.int .i64 0) (.int .i64 0) (.int .i64 0) (.int .i64 0) (.slice none 0 0)) (Ext.rfl_ _); refine bodyPost_ret (v := .tuple #[.agg #[.int .i64 0, .int .i64 0, .int .i64 0, .int .i64 0, .slice none 0 0], .int .i64 9]) (by simp [results, Tryz.f7, go_sem, z0, z1, z2, z3, z4]) rfl ?_; exact ⟨_, nilV, _, rfl, ⟨0, none, 0, 0, rfl, OwnT.nil _ _, Nat.zero_le _⟩, HR.out, extSet5 X3.out (by have := EQ.out; omega) _ _ _ _ _⟩
      by_cases k5 : y.seq < x.seq
      · have HR : Hid (DoR x y nilV 9) := Lib.hid ⟨fun h => absurd ⟨HND.out, HMY.out⟩ h, fun _ _ => ⟨fun _ => ⟨rfl, rfl⟩, fun h => absurd k5 (by have := h.2.2.2.2; omega)⟩⟩
        go_wp2_with (first | (go_at_call 13; refine (emay_any _ x _ HRV.out (by omega)).mono ?_; rintro e w1 ⟨rfl, hw1⟩; rw [d1]; have X1 := Lib.hid (X.out.trans hw1); have E1 := Lib.hid hw1; clear v0 v1 v2 v3 v4; obtain ⟨v0, v1, v2, v3, v4, _⟩ := box5 HC0.out hw1) | (go_at_call 14; refine (own_any A _ c x.ts _ (HL.out.ext X1.out) (by omega)).mono ?_; rintro e w2 ⟨va, rfl, ho, ho0, hw2⟩; have HO := Lib.hid ho; have HLT := Lib.hid (show ∀ k, va.ownBlock = some k → w1.heap.size ≤ k from fun k hk => (ho.lt k hk).1); have X2 := Lib.hid (X1.out.trans hw2); have E2 := Lib.hid (E1.out.trans hw2); have Z2 := Lib.hid hw2.size; clear ho ho0 v0 v1 v2 v3 v4) | (go_at_call 18; refine (delf_any w1.heap.size va x.ts 19 #[.pointer (some ⟨q4, 0, none⟩)] _ (InvD q4 q3 y.drop) _ HO.out (by omega) enter_drop (saysD q4 q3 y.drop) (keepsD (fun e => by have := HLT.out q4 e; have := E1.out.size; have := EQ.out; have := HZW.out; omega) (fun e => by have := HLT.out q3 e; have := E1.out.size; have := EQ.out; have := HZW.out; omega)) ⟨E2.out.keeps _ _ _ HD4.out, HSD.out.ext E2.out⟩).mono ?_; rintro e w3 ⟨vd, rfl, ho3, hg3, hi3⟩; have HK := Lib.hid (do_keep E1.out E2.out Z2.out hg3 HLT.out); have HO3 := Lib.hid (show OwnT w3 w1.heap.size vd (keptT x y) from ho3); obtain ⟨A3, c3, rfl, hc3, _⟩ := HO3.out.form (by have h := kept_found x y; unfold B47; omega); have X13 := hw2.grown hg3 HLT.out; have X3 := Lib.hid (X2.out.grown hg3 (fun k hk => Nat.le_trans X1.out.size (HLT.out k hk))); have HS3 := Lib.hid hi3.2; have h40 := hi3.1; have HC03 := Lib.hid (HK.out _ _ HC0.out); have HC13 := Lib.hid (HK.out _ _ HC1.out); have HC23 := Lib.hid (HK.out _ _ HC2.out); have L3 := Lib.hid hg3.size; obtain ⟨v0, v1, v2, v3, v4, _⟩ := box5 HC03.out (Ext.rfl_ w3); obtain ⟨y0, y1, y2, y3, y4, y5⟩ := box6 HC13.out; clear r0 r1 r2 r3 r4 s0 s1 s2 s3 s4; obtain ⟨r0, r1, r2, r3, r4, s0, s1, s2, s3, s4⟩ := box5 HC23.out (Ext.rfl_ w3); clear ho3 hg3 hi3) | (at_len; refine wp_setLen rfl _ rfl q3 y.drop HS3.out rfl ?_))
        obtain ⟨z0, z1, z2, z3, z4, _⟩ := box5 (set5 HC23.out (.int .i64 0) (.int .i64 0) (.int .i64 0) (.int .i64 0) (.slice none 0 0)) (Ext.rfl_ _); refine bodyPost_ret (v := .tuple #[.agg #[.int .i64 0, .int .i64 0, .int .i64 0, .int .i64 0, .slice none 0 0], .int .i64 9]) (by simp [results, Tryz.f7, go_sem, z0, z1, z2, z3, z4]) rfl ?_; exact ⟨_, nilV, _, rfl, ⟨0, none, 0, 0, rfl, OwnT.nil _ _, Nat.zero_le _⟩, HR.out, extSet5 X3.out (by have := EQ.out; omega) _ _ _ _ _⟩
      have HOK : Hid (DoOk x y) := Lib.hid ⟨k1, by omega, by omega, by omega, by omega⟩
      go_wp2_with (first | (go_at_call 13; refine (emay_any _ x _ HRV.out (by omega)).mono ?_; rintro e w1 ⟨rfl, hw1⟩; rw [d1]; have X1 := Lib.hid (X.out.trans hw1); have E1 := Lib.hid hw1; clear v0 v1 v2 v3 v4; obtain ⟨v0, v1, v2, v3, v4, _⟩ := box5 HC0.out hw1) | (go_at_call 14; refine (own_any A _ c x.ts _ (HL.out.ext X1.out) (by omega)).mono ?_; rintro e w2 ⟨va, rfl, ho, ho0, hw2⟩; have HO := Lib.hid ho; have HLT := Lib.hid (show ∀ k, va.ownBlock = some k → w1.heap.size ≤ k from fun k hk => (ho.lt k hk).1); have X2 := Lib.hid (X1.out.trans hw2); have E2 := Lib.hid (E1.out.trans hw2); have Z2 := Lib.hid hw2.size; clear ho ho0 v0 v1 v2 v3 v4) | (go_at_call 18; refine (delf_any w1.heap.size va x.ts 19 #[.pointer (some ⟨q4, 0, none⟩)] _ (InvD q4 q3 y.drop) _ HO.out (by omega) enter_drop (saysD q4 q3 y.drop) (keepsD (fun e => by have := HLT.out q4 e; have := E1.out.size; have := EQ.out; have := HZW.out; omega) (fun e => by have := HLT.out q3 e; have := E1.out.size; have := EQ.out; have := HZW.out; omega)) ⟨E2.out.keeps _ _ _ HD4.out, HSD.out.ext E2.out⟩).mono ?_; rintro e w3 ⟨vd, rfl, ho3, hg3, hi3⟩; have HK := Lib.hid (do_keep E1.out E2.out Z2.out hg3 HLT.out); have HO3 := Lib.hid (show OwnT w3 w1.heap.size vd (keptT x y) from ho3); obtain ⟨A3, c3, rfl, hc3, _⟩ := HO3.out.form (by have h := kept_found x y; unfold B47; omega); have X13 := hw2.grown hg3 HLT.out; have X3 := Lib.hid (X2.out.grown hg3 (fun k hk => Nat.le_trans X1.out.size (HLT.out k hk))); have HS3 := Lib.hid hi3.2; have h40 := hi3.1; have HC03 := Lib.hid (HK.out _ _ HC0.out); have HC13 := Lib.hid (HK.out _ _ HC1.out); have HC23 := Lib.hid (HK.out _ _ HC2.out); have L3 := Lib.hid hg3.size; obtain ⟨v0, v1, v2, v3, v4, _⟩ := box5 HC03.out (Ext.rfl_ w3); obtain ⟨y0, y1, y2, y3, y4, y5⟩ := box6 HC13.out; clear r0 r1 r2 r3 r4 s0 s1 s2 s3 s4; obtain ⟨r0, r1, r2, r3, r4, s0, s1, s2, s3, s4⟩ := box5 HC23.out (Ext.rfl_ w3); clear ho3 hg3 hi3) | (at_len; refine wp_setLen rfl _ rfl q3 y.drop HS3.out rfl ?_))
      have HL3 := Lib.hid (show (keptT x y).length ≤ 100000 by omega)
      have HSS := Lib.hid (show ∀ W, Ext w1 W → (W.cell? ⟨q1, 0, none⟩ = some (.slice D y.drop.length dc) ∧ W.cell? ⟨q1, 1, none⟩ = some (.slice B y.add.length d) ∧ W.cell? ⟨q1, 2, none⟩ = some (.int .i64 y.next) ∧ W.cell? ⟨q1, 3, none⟩ = some (.int .i64 y.log) ∧ W.cell? ⟨q1, 4, none⟩ = some (.int .i64 y.index) ∧ W.cell? ⟨q1, 5, none⟩ = some (.int .i64 y.seq)) from fun W hW =>
        box6 (((Ext.below (E1.out.trans hW)).block _ (Array.getElem?_eq_some_iff.1 HC1.out).1).trans HC1.out))
      clear hw2 y0 y1 y2 y3 y4 y5
      have z13 := X13.size
      refine wp_region_held_drew (S := (fun W => W.cell? ⟨q1, 0, none⟩ = some (.slice D y.drop.length dc) ∧ W.cell? ⟨q1, 1, none⟩ = some (.slice B y.add.length d) ∧ W.cell? ⟨q1, 2, none⟩ = some (.int .i64 y.next) ∧ W.cell? ⟨q1, 3, none⟩ = some (.int .i64 y.log) ∧ W.cell? ⟨q1, 4, none⟩ = some (.int .i64 y.index) ∧ W.cell? ⟨q1, 5, none⟩ = some (.int .i64 y.seq))) (by kernel_rfl) (by (try dsimp only); exact HSS.out _ (by with_reducible (repeat (first | exact Ext.rfl_ _ | assumption | refine Ext.drew ?_ | refine Ext.drewN ?_ _ | refine Ext.alloc ?_ _ | refine Ext.setCell ?_ (by first | (simp; done) | (simp; omega)) _ | refine Ext.trans ?_ (by assumption))))) (fun hHeld => ?_)
      refine wpAnyH_take (i := 0) (oi := ({ dst := some 75, op := .fieldAddr 28 (.tmp 3) 2, type := 0, pos := "edit.go:87", after := #[], guard := none } : Go.Oper)) (v := ?v1) rfl (by kernel_rfl) (by kernel_rfl) (by kernel_rfl) (fun _ _ _ h => h) (Or.inl ⟨by rfl, ?hy1⟩) (by assumption) ?rest1
      case hy1 => (intro w hSw; (try dsimp only at hSw); go_simp; (try with_reducible rfl))
      (try simp only [Act.put, List.getElem_toArray, List.getElem_cons_zero, List.getElem_cons_succ, List.setIfInBounds_toArray, List.set_cons_zero, List.set_cons_succ])
      refine wpAnyH_take (i := 1) (oi := ({ dst := some 76, op := .load 2 (.tmp 75), type := 2, pos := "edit.go:87", after := #[⟨0, .data⟩], guard := none } : Go.Oper)) (v := ?v2) rfl (by kernel_rfl) (by kernel_rfl) (by kernel_rfl) (fun _ _ _ h => h) (Or.inl ⟨by rfl, ?hy2⟩) (by assumption) ?rest2
      case hy2 => (intro w hSw; (try dsimp only at hSw); go_simp; (try with_reducible rfl))
      (try simp only [Act.put, List.getElem_toArray, List.getElem_cons_zero, List.getElem_cons_succ, List.setIfInBounds_toArray, List.set_cons_zero, List.set_cons_succ])
      refine wpAnyH_take (i := 2) (oi := ({ dst := some 77, op := .fieldAddr 28 (.tmp 3) 3, type := 0, pos := "edit.go:87", after := #[], guard := none } : Go.Oper)) (v := ?v3) rfl (by kernel_rfl) (by kernel_rfl) (by kernel_rfl) (fun _ _ _ h => h) (Or.inl ⟨by rfl, ?hy3⟩) (by assumption) ?rest3
      case hy3 => (intro w hSw; (try dsimp only at hSw); go_simp; (try with_reducible rfl))
      (try simp only [Act.put, List.getElem_toArray, List.getElem_cons_zero, List.getElem_cons_succ, List.setIfInBounds_toArray, List.set_cons_zero, List.set_cons_succ])
      refine wpAnyH_take (i := 3) (oi := ({ dst := some 78, op := .load 2 (.tmp 77), type := 2, pos := "edit.go:87", after := #[⟨2, .data⟩], guard := none } : Go.Oper)) (v := ?v4) rfl (by kernel_rfl) (by kernel_rfl) (by kernel_rfl) (fun _ _ _ h => h) (Or.inl ⟨by rfl, ?hy4⟩) (by assumption) ?rest4
      case hy4 => (intro w hSw; (try dsimp only at hSw); go_simp; (try with_reducible rfl))
      (try simp only [Act.put, List.getElem_toArray, List.getElem_cons_zero, List.getElem_cons_succ, List.setIfInBounds_toArray, List.set_cons_zero, List.set_cons_succ])
      refine wpAnyH_take (i := 4) (oi := ({ dst := some 79, op := .fieldAddr 28 (.tmp 3) 4, type := 0, pos := "edit.go:87", after := #[], guard := none } : Go.Oper)) (v := ?v5) rfl (by kernel_rfl) (by kernel_rfl) (by kernel_rfl) (fun _ _ _ h => h) (Or.inl ⟨by rfl, ?hy5⟩) (by assumption) ?rest5
      case hy5 => (intro w hSw; (try dsimp only at hSw); go_simp; (try with_reducible rfl))
      (try simp only [Act.put, List.getElem_toArray, List.getElem_cons_zero, List.getElem_cons_succ, List.setIfInBounds_toArray, List.set_cons_zero, List.set_cons_succ])
      refine wpAnyH_take (i := 5) (oi := ({ dst := some 80, op := .load 2 (.tmp 79), type := 2, pos := "edit.go:87", after := #[⟨4, .data⟩], guard := none } : Go.Oper)) (v := ?v6) rfl (by kernel_rfl) (by kernel_rfl) (by kernel_rfl) (fun _ _ _ h => h) (Or.inl ⟨by rfl, ?hy6⟩) (by assumption) ?rest6
      case hy6 => (intro w hSw; (try dsimp only at hSw); go_simp; (try with_reducible rfl))
      (try simp only [Act.put, List.getElem_toArray, List.getElem_cons_zero, List.getElem_cons_succ, List.setIfInBounds_toArray, List.set_cons_zero, List.set_cons_succ])
      refine wpAnyH_take (i := 6) (oi := ({ dst := some 81, op := .fieldAddr 28 (.tmp 3) 5, type := 0, pos := "edit.go:87", after := #[], guard := none } : Go.Oper)) (v := ?v7) rfl (by kernel_rfl) (by kernel_rfl) (by kernel_rfl) (fun _ _ _ h => h) (Or.inl ⟨by rfl, ?hy7⟩) (by assumption) ?rest7
      case hy7 => (intro w hSw; (try dsimp only at hSw); go_simp; (try with_reducible rfl))
      (try simp only [Act.put, List.getElem_toArray, List.getElem_cons_zero, List.getElem_cons_succ, List.setIfInBounds_toArray, List.set_cons_zero, List.set_cons_succ])
      refine wpAnyH_take (i := 7) (oi := ({ dst := some 82, op := .load 2 (.tmp 81), type := 2, pos := "edit.go:87", after := #[⟨6, .data⟩], guard := none } : Go.Oper)) (v := ?v8) rfl (by kernel_rfl) (by kernel_rfl) (by kernel_rfl) (fun _ _ _ h => h) (Or.inl ⟨by rfl, ?hy8⟩) (by assumption) ?rest8
      case hy8 => (intro w hSw; (try dsimp only at hSw); go_simp; (try with_reducible rfl))
      (try simp only [Act.put, List.getElem_toArray, List.getElem_cons_zero, List.getElem_cons_succ, List.setIfInBounds_toArray, List.set_cons_zero, List.set_cons_succ])
      refine wpAnyH_take (i := 8) (oi := ({ dst := some 83, op := .move (.tmp 9), type := 22, pos := "edit.go:87", after := #[], guard := none } : Go.Oper)) (v := ?v9) rfl (by kernel_rfl) (by kernel_rfl) (by kernel_rfl) (fun _ _ _ h => h) (Or.inl ⟨by rfl, ?hy9⟩) (by assumption) ?rest9
      case hy9 => (intro w hSw; (try dsimp only at hSw); go_simp; (try with_reducible rfl))
      (try simp only [Act.put, List.getElem_toArray, List.getElem_cons_zero, List.getElem_cons_succ, List.setIfInBounds_toArray, List.set_cons_zero, List.set_cons_succ])
      refine wpAnyH_take (i := 9) (oi := ({ dst := some 84, op := .fieldAddr 28 (.tmp 3) 1, type := 0, pos := "edit.go:87", after := #[], guard := none } : Go.Oper)) (v := ?v10) rfl (by kernel_rfl) (by kernel_rfl) (by kernel_rfl) (fun _ _ _ h => h) (Or.inl ⟨by rfl, ?hy10⟩) (by assumption) ?rest10
      case hy10 => (intro w hSw; (try dsimp only at hSw); go_simp; (try with_reducible rfl))
      (try simp only [Act.put, List.getElem_toArray, List.getElem_cons_zero, List.getElem_cons_succ, List.setIfInBounds_toArray, List.set_cons_zero, List.set_cons_succ])
      refine wpAnyH_take (i := 10) (oi := ({ dst := some 85, op := .load 22 (.tmp 84), type := 22, pos := "edit.go:87", after := #[⟨9, .data⟩], guard := none } : Go.Oper)) (v := ?v11) rfl (by kernel_rfl) (by kernel_rfl) (by kernel_rfl) (fun _ _ _ h => h) (Or.inl ⟨by rfl, ?hy11⟩) (by assumption) ?rest11
      case hy11 => (intro w hSw; (try dsimp only at hSw); go_simp; (try with_reducible rfl))
      (try simp only [Act.put, List.getElem_toArray, List.getElem_cons_zero, List.getElem_cons_succ, List.setIfInBounds_toArray, List.set_cons_zero, List.set_cons_succ])
      refine wpAnyH_ready (rs := [11, 14]) (by kernel_rfl) (by simp) ?_
      refine AllReadyH.cons (o := ({ dst := some 86, op := .call { callee := .value (.func 14), args := #[.tmp 85], argTypes := #[22] }, type := 22, pos := "edit.go:87", after := #[⟨10, .data⟩], guard := none } : Go.Oper)) rfl (fun K hK => ?one12) ?more12
      case' one12 =>
        go_simp
        (go_at_call 14; refine (own_any B _ d y.add _ (HA.out.ext (X1.out.trans (by with_reducible (repeat (first | exact Ext.rfl_ _ | assumption | refine Ext.drew ?_ | refine Ext.drewN ?_ _ | refine Ext.alloc ?_ _ | refine Ext.trans ?_ (by assumption)))))) (by omega)).mono ?_; rintro e w4 ⟨va, rfl, ho, ho0, hw4⟩; have HO4 := Lib.hid (OwnT.lift ho0 ho (Ext.size (show Ext w1 _ from (by with_reducible (repeat (first | exact Ext.rfl_ _ | assumption | refine Ext.drew ?_ | refine Ext.drewN ?_ _ | refine Ext.alloc ?_ _ | refine Ext.trans ?_ (by assumption))))))); clear ho ho0; have X34 := Lib.hid (show Ext w3 w4 from (by with_reducible (repeat (first | exact Ext.rfl_ _ | assumption | refine Ext.drew ?_ | refine Ext.drewN ?_ _ | refine Ext.alloc ?_ _ | refine Ext.trans ?_ (by assumption))))); have z34 := X34.out.size; obtain ⟨A4, c4, rfl, hc4, _⟩ := HO4.out.form (by unfold B47; omega); (try (have HBO := Lib.hid (((Ext.below hw4).block _ (Array.getElem?_eq_some_iff.1 HBO.out).1).trans HBO.out))))
        (try (go_wp2_with fail))
        refine hK.out _ _ (by (try dsimp only); exact HSS.out _ (by with_reducible (repeat (first | exact Ext.rfl_ _ | assumption | refine Ext.drew ?_ | refine Ext.drewN ?_ _ | refine Ext.alloc ?_ _ | refine Ext.setCell ?_ (by first | (simp; done) | (simp; omega)) _ | refine Ext.trans ?_ (by assumption))))) (fun hHeld => ?_)
        clear hK K
        (try simp only [Act.put, List.getElem_toArray, List.getElem_cons_zero, List.getElem_cons_succ, List.setIfInBounds_toArray, List.set_cons_zero, List.set_cons_succ])
        refine wpAnyH_ready (rs := [12, 14]) (by kernel_rfl) (by simp) ?_
        refine AllReadyH.cons (o := ({ dst := some 87, op := .call { callee := .builtin .append, args := #[.tmp 83, .tmp 86], argTypes := #[22, 22] }, type := 22, pos := "edit.go:87", after := #[⟨8, .data⟩, ⟨11, .data⟩, ⟨11, .chain⟩], guard := none } : Go.Oper)) rfl (fun K hK => ?one13) ?more13
        case' one13 =>
          refine step_appT rfl _ _ rfl w1.heap.size _ (keptT x y) rfl (HO3.out.ext (by with_reducible (repeat (first | exact Ext.rfl_ _ | assumption | refine Ext.drew ?_ | refine Ext.drewN ?_ _ | refine Ext.alloc ?_ _ | refine Ext.trans ?_ (by assumption))))) A4 _ c4 y.add rfl ((HO4.out.ext (by with_reducible (repeat (first | exact Ext.rfl_ _ | assumption | refine Ext.drew ?_ | refine Ext.drewN ?_ _ | refine Ext.alloc ?_ _ | refine Ext.trans ?_ (by assumption))))).rda (by unfold B47; omega)) (by unfold B40; omega) (Ext.size (show Ext w1 _ from (by with_reducible (repeat (first | exact Ext.rfl_ _ | assumption | refine Ext.drew ?_ | refine Ext.drewN ?_ _ | refine Ext.alloc ?_ _ | refine Ext.trans ?_ (by assumption)))))) ?_; intro v5 w5 h5 g5 _; have X15 : Ext w1 w5 := Ext.growT (show Ext w1 _ from (by with_reducible (repeat (first | exact Ext.rfl_ _ | assumption | refine Ext.drew ?_ | refine Ext.drewN ?_ _ | refine Ext.alloc ?_ _ | refine Ext.trans ?_ (by assumption))))) g5 (HO3.out.ext (by with_reducible (repeat (first | exact Ext.rfl_ _ | assumption | refine Ext.drew ?_ | refine Ext.drewN ?_ _ | refine Ext.alloc ?_ _ | refine Ext.trans ?_ (by assumption))))) (Nat.le_refl _); have HO5 := Lib.hid h5; obtain ⟨A5, c5, rfl, hc5, _⟩ := h5.form (by rw [List.length_append]; unfold B47; omega); have HO5 := HO5.out; rw [List.length_append] at HO5; have HO5 := Lib.hid HO5; have z35 : w3.heap.size ≤ w5.heap.size := (by have := X15.size; have := g5.size; simp at *; omega); (try (have HBO := Lib.hid ((g5.block _ (Array.getElem?_eq_some_iff.1 HBO.out).1 (fun e => by have h9 := (HO3.out.lt _ e.symm).2; omega)).trans HBO.out); have HFI := Lib.hid (And.intro X15 HO5.out))); clear h5 g5
          refine hK.out _ _ (by (try dsimp only); exact HSS.out _ (by with_reducible (repeat (first | exact Ext.rfl_ _ | assumption | refine Ext.drew ?_ | refine Ext.drewN ?_ _ | refine Ext.alloc ?_ _ | refine Ext.setCell ?_ (by first | (simp; done) | (simp; omega)) _ | refine Ext.trans ?_ (by assumption))))) (fun hHeld => ?_)
          clear hK K
          (try simp only [Act.put, List.getElem_toArray, List.getElem_cons_zero, List.getElem_cons_succ, List.setIfInBounds_toArray, List.set_cons_zero, List.set_cons_succ])
          refine wpAnyH_ready (rs := [13, 14]) (by kernel_rfl) (by simp) ?_
          refine AllReadyH.cons (o := ({ dst := some 88, op := .build 24 #[(0, .tmp 76), (1, .tmp 78), (2, .tmp 80), (3, .tmp 82), (4, .tmp 87)], type := 24, pos := "edit.go:87", after := #[⟨1, .data⟩, ⟨3, .data⟩, ⟨5, .data⟩, ⟨7, .data⟩, ⟨12, .data⟩], guard := none } : Go.Oper)) rfl (fun K hK => ?one14) ?more14
          case' one14 =>
            go_simp
            refine hK.out _ _ (by (try dsimp only); exact HSS.out _ (by with_reducible (repeat (first | exact Ext.rfl_ _ | assumption | refine Ext.drew ?_ | refine Ext.drewN ?_ _ | refine Ext.alloc ?_ _ | refine Ext.setCell ?_ (by first | (simp; done) | (simp; omega)) _ | refine Ext.trans ?_ (by assumption))))) (fun hHeld => ?_)
            clear hK K
            (try simp only [Act.put, List.getElem_toArray, List.getElem_cons_zero, List.getElem_cons_succ, List.setIfInBounds_toArray, List.set_cons_zero, List.set_cons_succ])
            refine wpAnyH_ready (rs := [14]) (by kernel_rfl) (by simp) ?_
            refine AllReadyH.cons (o := ({ dst := some 10, op := .alloc 24, type := 0, pos := "edit.go:87", after := #[], guard := none } : Go.Oper)) rfl (fun K hK => ?_) AllReadyH.nil
            go_simp; (first | (obtain ⟨o, ho⟩ : ∃ o, w5.heap.size = o := ⟨_, rfl⟩; have HBO := Lib.hid (heap_alloc_new w5 (.cells #[.int .i64 0, .int .i64 0, .int .i64 0, .int .i64 0, .slice none 0 0] 24)); rw [ho] at HBO ⊢; have zo : w3.heap.size ≤ o := (by omega); have := X15.size; clear ho; have HFI := Lib.hid (And.intro (X15.alloc (.cells #[.int .i64 0, .int .i64 0, .int .i64 0, .int .i64 0, .slice none 0 0] 24)) (HO5.out.ext (Ext.alloc (Ext.rfl_ w5) (.cells #[.int .i64 0, .int .i64 0, .int .i64 0, .int .i64 0, .slice none 0 0] 24))))) | (obtain ⟨o, ho⟩ : ∃ o, w4.heap.size = o := ⟨_, rfl⟩; have HBO := Lib.hid (heap_alloc_new w4 (.cells #[.int .i64 0, .int .i64 0, .int .i64 0, .int .i64 0, .slice none 0 0] 24)); rw [ho] at HBO ⊢; have zo : w3.heap.size ≤ o := (by omega); clear ho) | (obtain ⟨o, ho⟩ : ∃ o, w3.heap.size = o := ⟨_, rfl⟩; have HBO := Lib.hid (heap_alloc_new w3 (.cells #[.int .i64 0, .int .i64 0, .int .i64 0, .int .i64 0, .slice none 0 0] 24)); rw [ho] at HBO ⊢; have zo : w3.heap.size ≤ o := (by omega); clear ho))
            refine hK.out _ _ (by (try dsimp only); exact HSS.out _ (by with_reducible (repeat (first | exact Ext.rfl_ _ | assumption | refine Ext.drew ?_ | refine Ext.drewN ?_ _ | refine Ext.alloc ?_ _ | refine Ext.setCell ?_ (by first | (simp; done) | (simp; omega)) _ | refine Ext.trans ?_ (by assumption))))) (fun hHeld => ?_)
            clear hK K
            (try simp only [Act.put, List.getElem_toArray, List.getElem_cons_zero, List.getElem_cons_succ, List.setIfInBounds_toArray, List.set_cons_zero, List.set_cons_succ])
            refine wpAnyH_ready (rs := [15]) (by kernel_rfl) (by simp) ?_
            refine AllReadyH.cons (o := ({ dst := none, op := .store 24 (.tmp 10) (.tmp 88), type := 0, pos := "edit.go:87", after := #[⟨14, .data⟩, ⟨13, .data⟩, ⟨12, .chain⟩, ⟨0, .phase⟩, ⟨1, .phase⟩, ⟨2, .phase⟩, ⟨3, .phase⟩, ⟨4, .phase⟩, ⟨5, .phase⟩, ⟨6, .phase⟩, ⟨7, .phase⟩, ⟨8, .phase⟩, ⟨9, .phase⟩, ⟨10, .phase⟩, ⟨11, .phase⟩, ⟨12, .phase⟩, ⟨13, .phase⟩, ⟨14, .phase⟩], guard := none } : Go.Oper)) rfl (fun K hK => ?_) AllReadyH.nil
            (try (obtain ⟨o0, o1, o2, o3, o4, p0, p1, p2, p3, p4⟩ := box5 HBO.out (Ext.rfl_ _))); go_simp
            refine hK.out _ _ (by (try dsimp only); exact HSS.out _ (by with_reducible (repeat (first | exact Ext.rfl_ _ | assumption | refine Ext.drew ?_ | refine Ext.drewN ?_ _ | refine Ext.alloc ?_ _ | refine Ext.setCell ?_ (by first | (simp; done) | (simp; omega)) _ | refine Ext.trans ?_ (by assumption))))) (fun hHeld => ?_)
            clear hK K
            (try simp only [Act.put, List.getElem_toArray, List.getElem_cons_zero, List.getElem_cons_succ, List.setIfInBounds_toArray, List.set_cons_zero, List.set_cons_succ])
            refine wpAnyH_done (by kernel_rfl) ?_ _
          case' more14 =>
            refine AllReadyH.cons (o := ({ dst := some 10, op := .alloc 24, type := 0, pos := "edit.go:87", after := #[], guard := none } : Go.Oper)) rfl (fun K hK => ?_) AllReadyH.nil
            go_simp; (first | (obtain ⟨o, ho⟩ : ∃ o, w5.heap.size = o := ⟨_, rfl⟩; have HBO := Lib.hid (heap_alloc_new w5 (.cells #[.int .i64 0, .int .i64 0, .int .i64 0, .int .i64 0, .slice none 0 0] 24)); rw [ho] at HBO ⊢; have zo : w3.heap.size ≤ o := (by omega); have := X15.size; clear ho; have HFI := Lib.hid (And.intro (X15.alloc (.cells #[.int .i64 0, .int .i64 0, .int .i64 0, .int .i64 0, .slice none 0 0] 24)) (HO5.out.ext (Ext.alloc (Ext.rfl_ w5) (.cells #[.int .i64 0, .int .i64 0, .int .i64 0, .int .i64 0, .slice none 0 0] 24))))) | (obtain ⟨o, ho⟩ : ∃ o, w4.heap.size = o := ⟨_, rfl⟩; have HBO := Lib.hid (heap_alloc_new w4 (.cells #[.int .i64 0, .int .i64 0, .int .i64 0, .int .i64 0, .slice none 0 0] 24)); rw [ho] at HBO ⊢; have zo : w3.heap.size ≤ o := (by omega); clear ho) | (obtain ⟨o, ho⟩ : ∃ o, w3.heap.size = o := ⟨_, rfl⟩; have HBO := Lib.hid (heap_alloc_new w3 (.cells #[.int .i64 0, .int .i64 0, .int .i64 0, .int .i64 0, .slice none 0 0] 24)); rw [ho] at HBO ⊢; have zo : w3.heap.size ≤ o := (by omega); clear ho))
            refine hK.out _ _ (by (try dsimp only); exact HSS.out _ (by with_reducible (repeat (first | exact Ext.rfl_ _ | assumption | refine Ext.drew ?_ | refine Ext.drewN ?_ _ | refine Ext.alloc ?_ _ | refine Ext.setCell ?_ (by first | (simp; done) | (simp; omega)) _ | refine Ext.trans ?_ (by assumption))))) (fun hHeld => ?_)
            clear hK K
            (try simp only [Act.put, List.getElem_toArray, List.getElem_cons_zero, List.getElem_cons_succ, List.setIfInBounds_toArray, List.set_cons_zero, List.set_cons_succ])
            refine wpAnyH_ready (rs := [13]) (by kernel_rfl) (by simp) ?_
            refine AllReadyH.cons (o := ({ dst := some 88, op := .build 24 #[(0, .tmp 76), (1, .tmp 78), (2, .tmp 80), (3, .tmp 82), (4, .tmp 87)], type := 24, pos := "edit.go:87", after := #[⟨1, .data⟩, ⟨3, .data⟩, ⟨5, .data⟩, ⟨7, .data⟩, ⟨12, .data⟩], guard := none } : Go.Oper)) rfl (fun K hK => ?_) AllReadyH.nil
            go_simp
            refine hK.out _ _ (by (try dsimp only); exact HSS.out _ (by with_reducible (repeat (first | exact Ext.rfl_ _ | assumption | refine Ext.drew ?_ | refine Ext.drewN ?_ _ | refine Ext.alloc ?_ _ | refine Ext.setCell ?_ (by first | (simp; done) | (simp; omega)) _ | refine Ext.trans ?_ (by assumption))))) (fun hHeld => ?_)
            clear hK K
            (try simp only [Act.put, List.getElem_toArray, List.getElem_cons_zero, List.getElem_cons_succ, List.setIfInBounds_toArray, List.set_cons_zero, List.set_cons_succ])
            refine wpAnyH_ready (rs := [15]) (by kernel_rfl) (by simp) ?_
            refine AllReadyH.cons (o := ({ dst := none, op := .store 24 (.tmp 10) (.tmp 88), type := 0, pos := "edit.go:87", after := #[⟨14, .data⟩, ⟨13, .data⟩, ⟨12, .chain⟩, ⟨0, .phase⟩, ⟨1, .phase⟩, ⟨2, .phase⟩, ⟨3, .phase⟩, ⟨4, .phase⟩, ⟨5, .phase⟩, ⟨6, .phase⟩, ⟨7, .phase⟩, ⟨8, .phase⟩, ⟨9, .phase⟩, ⟨10, .phase⟩, ⟨11, .phase⟩, ⟨12, .phase⟩, ⟨13, .phase⟩, ⟨14, .phase⟩], guard := none } : Go.Oper)) rfl (fun K hK => ?_) AllReadyH.nil
            (try (obtain ⟨o0, o1, o2, o3, o4, p0, p1, p2, p3, p4⟩ := box5 HBO.out (Ext.rfl_ _))); go_simp
            refine hK.out _ _ (by (try dsimp only); exact HSS.out _ (by with_reducible (repeat (first | exact Ext.rfl_ _ | assumption | refine Ext.drew ?_ | refine Ext.drewN ?_ _ | refine Ext.alloc ?_ _ | refine Ext.setCell ?_ (by first | (simp; done) | (simp; omega)) _ | refine Ext.trans ?_ (by assumption))))) (fun hHeld => ?_)
            clear hK K
            (try simp only [Act.put, List.getElem_toArray, List.getElem_cons_zero, List.getElem_cons_succ, List.setIfInBounds_toArray, List.set_cons_zero, List.set_cons_succ])
            refine wpAnyH_done (by kernel_rfl) ?_ _
        case' more13 =>
          refine AllReadyH.cons (o := ({ dst := some 10, op := .alloc 24, type := 0, pos := "edit.go:87", after := #[], guard := none } : Go.Oper)) rfl (fun K hK => ?_) AllReadyH.nil
          go_simp; (first | (obtain ⟨o, ho⟩ : ∃ o, w5.heap.size = o := ⟨_, rfl⟩; have HBO := Lib.hid (heap_alloc_new w5 (.cells #[.int .i64 0, .int .i64 0, .int .i64 0, .int .i64 0, .slice none 0 0] 24)); rw [ho] at HBO ⊢; have zo : w3.heap.size ≤ o := (by omega); have := X15.size; clear ho; have HFI := Lib.hid (And.intro (X15.alloc (.cells #[.int .i64 0, .int .i64 0, .int .i64 0, .int .i64 0, .slice none 0 0] 24)) (HO5.out.ext (Ext.alloc (Ext.rfl_ w5) (.cells #[.int .i64 0, .int .i64 0, .int .i64 0, .int .i64 0, .slice none 0 0] 24))))) | (obtain ⟨o, ho⟩ : ∃ o, w4.heap.size = o := ⟨_, rfl⟩; have HBO := Lib.hid (heap_alloc_new w4 (.cells #[.int .i64 0, .int .i64 0, .int .i64 0, .int .i64 0, .slice none 0 0] 24)); rw [ho] at HBO ⊢; have zo : w3.heap.size ≤ o := (by omega); clear ho) | (obtain ⟨o, ho⟩ : ∃ o, w3.heap.size = o := ⟨_, rfl⟩; have HBO := Lib.hid (heap_alloc_new w3 (.cells #[.int .i64 0, .int .i64 0, .int .i64 0, .int .i64 0, .slice none 0 0] 24)); rw [ho] at HBO ⊢; have zo : w3.heap.size ≤ o := (by omega); clear ho))
          refine hK.out _ _ (by (try dsimp only); exact HSS.out _ (by with_reducible (repeat (first | exact Ext.rfl_ _ | assumption | refine Ext.drew ?_ | refine Ext.drewN ?_ _ | refine Ext.alloc ?_ _ | refine Ext.setCell ?_ (by first | (simp; done) | (simp; omega)) _ | refine Ext.trans ?_ (by assumption))))) (fun hHeld => ?_)
          clear hK K
          (try simp only [Act.put, List.getElem_toArray, List.getElem_cons_zero, List.getElem_cons_succ, List.setIfInBounds_toArray, List.set_cons_zero, List.set_cons_succ])
          refine wpAnyH_ready (rs := [12]) (by kernel_rfl) (by simp) ?_
          refine AllReadyH.cons (o := ({ dst := some 87, op := .call { callee := .builtin .append, args := #[.tmp 83, .tmp 86], argTypes := #[22, 22] }, type := 22, pos := "edit.go:87", after := #[⟨8, .data⟩, ⟨11, .data⟩, ⟨11, .chain⟩], guard := none } : Go.Oper)) rfl (fun K hK => ?_) AllReadyH.nil
          refine step_appT rfl _ _ rfl w1.heap.size _ (keptT x y) rfl (HO3.out.ext (by with_reducible (repeat (first | exact Ext.rfl_ _ | assumption | refine Ext.drew ?_ | refine Ext.drewN ?_ _ | refine Ext.alloc ?_ _ | refine Ext.trans ?_ (by assumption))))) A4 _ c4 y.add rfl ((HO4.out.ext (by with_reducible (repeat (first | exact Ext.rfl_ _ | assumption | refine Ext.drew ?_ | refine Ext.drewN ?_ _ | refine Ext.alloc ?_ _ | refine Ext.trans ?_ (by assumption))))).rda (by unfold B47; omega)) (by unfold B40; omega) (Ext.size (show Ext w1 _ from (by with_reducible (repeat (first | exact Ext.rfl_ _ | assumption | refine Ext.drew ?_ | refine Ext.drewN ?_ _ | refine Ext.alloc ?_ _ | refine Ext.trans ?_ (by assumption)))))) ?_; intro v5 w5 h5 g5 _; have X15 : Ext w1 w5 := Ext.growT (show Ext w1 _ from (by with_reducible (repeat (first | exact Ext.rfl_ _ | assumption | refine Ext.drew ?_ | refine Ext.drewN ?_ _ | refine Ext.alloc ?_ _ | refine Ext.trans ?_ (by assumption))))) g5 (HO3.out.ext (by with_reducible (repeat (first | exact Ext.rfl_ _ | assumption | refine Ext.drew ?_ | refine Ext.drewN ?_ _ | refine Ext.alloc ?_ _ | refine Ext.trans ?_ (by assumption))))) (Nat.le_refl _); have HO5 := Lib.hid h5; obtain ⟨A5, c5, rfl, hc5, _⟩ := h5.form (by rw [List.length_append]; unfold B47; omega); have HO5 := HO5.out; rw [List.length_append] at HO5; have HO5 := Lib.hid HO5; have z35 : w3.heap.size ≤ w5.heap.size := (by have := X15.size; have := g5.size; simp at *; omega); (try (have HBO := Lib.hid ((g5.block _ (Array.getElem?_eq_some_iff.1 HBO.out).1 (fun e => by have h9 := (HO3.out.lt _ e.symm).2; omega)).trans HBO.out); have HFI := Lib.hid (And.intro X15 HO5.out))); clear h5 g5
          refine hK.out _ _ (by (try dsimp only); exact HSS.out _ (by with_reducible (repeat (first | exact Ext.rfl_ _ | assumption | refine Ext.drew ?_ | refine Ext.drewN ?_ _ | refine Ext.alloc ?_ _ | refine Ext.setCell ?_ (by first | (simp; done) | (simp; omega)) _ | refine Ext.trans ?_ (by assumption))))) (fun hHeld => ?_)
          clear hK K
          (try simp only [Act.put, List.getElem_toArray, List.getElem_cons_zero, List.getElem_cons_succ, List.setIfInBounds_toArray, List.set_cons_zero, List.set_cons_succ])
          refine wpAnyH_ready (rs := [13]) (by kernel_rfl) (by simp) ?_
          refine AllReadyH.cons (o := ({ dst := some 88, op := .build 24 #[(0, .tmp 76), (1, .tmp 78), (2, .tmp 80), (3, .tmp 82), (4, .tmp 87)], type := 24, pos := "edit.go:87", after := #[⟨1, .data⟩, ⟨3, .data⟩, ⟨5, .data⟩, ⟨7, .data⟩, ⟨12, .data⟩], guard := none } : Go.Oper)) rfl (fun K hK => ?_) AllReadyH.nil
          go_simp
          refine hK.out _ _ (by (try dsimp only); exact HSS.out _ (by with_reducible (repeat (first | exact Ext.rfl_ _ | assumption | refine Ext.drew ?_ | refine Ext.drewN ?_ _ | refine Ext.alloc ?_ _ | refine Ext.setCell ?_ (by first | (simp; done) | (simp; omega)) _ | refine Ext.trans ?_ (by assumption))))) (fun hHeld => ?_)
          clear hK K
          (try simp only [Act.put, List.getElem_toArray, List.getElem_cons_zero, List.getElem_cons_succ, List.setIfInBounds_toArray, List.set_cons_zero, List.set_cons_succ])
          refine wpAnyH_ready (rs := [15]) (by kernel_rfl) (by simp) ?_
          refine AllReadyH.cons (o := ({ dst := none, op := .store 24 (.tmp 10) (.tmp 88), type := 0, pos := "edit.go:87", after := #[⟨14, .data⟩, ⟨13, .data⟩, ⟨12, .chain⟩, ⟨0, .phase⟩, ⟨1, .phase⟩, ⟨2, .phase⟩, ⟨3, .phase⟩, ⟨4, .phase⟩, ⟨5, .phase⟩, ⟨6, .phase⟩, ⟨7, .phase⟩, ⟨8, .phase⟩, ⟨9, .phase⟩, ⟨10, .phase⟩, ⟨11, .phase⟩, ⟨12, .phase⟩, ⟨13, .phase⟩, ⟨14, .phase⟩], guard := none } : Go.Oper)) rfl (fun K hK => ?_) AllReadyH.nil
          (try (obtain ⟨o0, o1, o2, o3, o4, p0, p1, p2, p3, p4⟩ := box5 HBO.out (Ext.rfl_ _))); go_simp
          refine hK.out _ _ (by (try dsimp only); exact HSS.out _ (by with_reducible (repeat (first | exact Ext.rfl_ _ | assumption | refine Ext.drew ?_ | refine Ext.drewN ?_ _ | refine Ext.alloc ?_ _ | refine Ext.setCell ?_ (by first | (simp; done) | (simp; omega)) _ | refine Ext.trans ?_ (by assumption))))) (fun hHeld => ?_)
          clear hK K
          (try simp only [Act.put, List.getElem_toArray, List.getElem_cons_zero, List.getElem_cons_succ, List.setIfInBounds_toArray, List.set_cons_zero, List.set_cons_succ])
          refine wpAnyH_done (by kernel_rfl) ?_ _
      case' more12 =>
        refine AllReadyH.cons (o := ({ dst := some 10, op := .alloc 24, type := 0, pos := "edit.go:87", after := #[], guard := none } : Go.Oper)) rfl (fun K hK => ?_) AllReadyH.nil
        go_simp; (first | (obtain ⟨o, ho⟩ : ∃ o, w5.heap.size = o := ⟨_, rfl⟩; have HBO := Lib.hid (heap_alloc_new w5 (.cells #[.int .i64 0, .int .i64 0, .int .i64 0, .int .i64 0, .slice none 0 0] 24)); rw [ho] at HBO ⊢; have zo : w3.heap.size ≤ o := (by omega); have := X15.size; clear ho; have HFI := Lib.hid (And.intro (X15.alloc (.cells #[.int .i64 0, .int .i64 0, .int .i64 0, .int .i64 0, .slice none 0 0] 24)) (HO5.out.ext (Ext.alloc (Ext.rfl_ w5) (.cells #[.int .i64 0, .int .i64 0, .int .i64 0, .int .i64 0, .slice none 0 0] 24))))) | (obtain ⟨o, ho⟩ : ∃ o, w4.heap.size = o := ⟨_, rfl⟩; have HBO := Lib.hid (heap_alloc_new w4 (.cells #[.int .i64 0, .int .i64 0, .int .i64 0, .int .i64 0, .slice none 0 0] 24)); rw [ho] at HBO ⊢; have zo : w3.heap.size ≤ o := (by omega); clear ho) | (obtain ⟨o, ho⟩ : ∃ o, w3.heap.size = o := ⟨_, rfl⟩; have HBO := Lib.hid (heap_alloc_new w3 (.cells #[.int .i64 0, .int .i64 0, .int .i64 0, .int .i64 0, .slice none 0 0] 24)); rw [ho] at HBO ⊢; have zo : w3.heap.size ≤ o := (by omega); clear ho))
        refine hK.out _ _ (by (try dsimp only); exact HSS.out _ (by with_reducible (repeat (first | exact Ext.rfl_ _ | assumption | refine Ext.drew ?_ | refine Ext.drewN ?_ _ | refine Ext.alloc ?_ _ | refine Ext.setCell ?_ (by first | (simp; done) | (simp; omega)) _ | refine Ext.trans ?_ (by assumption))))) (fun hHeld => ?_)
        clear hK K
        (try simp only [Act.put, List.getElem_toArray, List.getElem_cons_zero, List.getElem_cons_succ, List.setIfInBounds_toArray, List.set_cons_zero, List.set_cons_succ])
        refine wpAnyH_ready (rs := [11]) (by kernel_rfl) (by simp) ?_
        refine AllReadyH.cons (o := ({ dst := some 86, op := .call { callee := .value (.func 14), args := #[.tmp 85], argTypes := #[22] }, type := 22, pos := "edit.go:87", after := #[⟨10, .data⟩], guard := none } : Go.Oper)) rfl (fun K hK => ?_) AllReadyH.nil
        go_simp
        (go_at_call 14; refine (own_any B _ d y.add _ (HA.out.ext (X1.out.trans (by with_reducible (repeat (first | exact Ext.rfl_ _ | assumption | refine Ext.drew ?_ | refine Ext.drewN ?_ _ | refine Ext.alloc ?_ _ | refine Ext.trans ?_ (by assumption)))))) (by omega)).mono ?_; rintro e w4 ⟨va, rfl, ho, ho0, hw4⟩; have HO4 := Lib.hid (OwnT.lift ho0 ho (Ext.size (show Ext w1 _ from (by with_reducible (repeat (first | exact Ext.rfl_ _ | assumption | refine Ext.drew ?_ | refine Ext.drewN ?_ _ | refine Ext.alloc ?_ _ | refine Ext.trans ?_ (by assumption))))))); clear ho ho0; have X34 := Lib.hid (show Ext w3 w4 from (by with_reducible (repeat (first | exact Ext.rfl_ _ | assumption | refine Ext.drew ?_ | refine Ext.drewN ?_ _ | refine Ext.alloc ?_ _ | refine Ext.trans ?_ (by assumption))))); have z34 := X34.out.size; obtain ⟨A4, c4, rfl, hc4, _⟩ := HO4.out.form (by unfold B47; omega); (try (have HBO := Lib.hid (((Ext.below hw4).block _ (Array.getElem?_eq_some_iff.1 HBO.out).1).trans HBO.out))))
        (try (go_wp2_with fail))
        refine hK.out _ _ (by (try dsimp only); exact HSS.out _ (by with_reducible (repeat (first | exact Ext.rfl_ _ | assumption | refine Ext.drew ?_ | refine Ext.drewN ?_ _ | refine Ext.alloc ?_ _ | refine Ext.setCell ?_ (by first | (simp; done) | (simp; omega)) _ | refine Ext.trans ?_ (by assumption))))) (fun hHeld => ?_)
        clear hK K
        (try simp only [Act.put, List.getElem_toArray, List.getElem_cons_zero, List.getElem_cons_succ, List.setIfInBounds_toArray, List.set_cons_zero, List.set_cons_succ])
        refine wpAnyH_ready (rs := [12]) (by kernel_rfl) (by simp) ?_
        refine AllReadyH.cons (o := ({ dst := some 87, op := .call { callee := .builtin .append, args := #[.tmp 83, .tmp 86], argTypes := #[22, 22] }, type := 22, pos := "edit.go:87", after := #[⟨8, .data⟩, ⟨11, .data⟩, ⟨11, .chain⟩], guard := none } : Go.Oper)) rfl (fun K hK => ?_) AllReadyH.nil
        refine step_appT rfl _ _ rfl w1.heap.size _ (keptT x y) rfl (HO3.out.ext (by with_reducible (repeat (first | exact Ext.rfl_ _ | assumption | refine Ext.drew ?_ | refine Ext.drewN ?_ _ | refine Ext.alloc ?_ _ | refine Ext.trans ?_ (by assumption))))) A4 _ c4 y.add rfl ((HO4.out.ext (by with_reducible (repeat (first | exact Ext.rfl_ _ | assumption | refine Ext.drew ?_ | refine Ext.drewN ?_ _ | refine Ext.alloc ?_ _ | refine Ext.trans ?_ (by assumption))))).rda (by unfold B47; omega)) (by unfold B40; omega) (Ext.size (show Ext w1 _ from (by with_reducible (repeat (first | exact Ext.rfl_ _ | assumption | refine Ext.drew ?_ | refine Ext.drewN ?_ _ | refine Ext.alloc ?_ _ | refine Ext.trans ?_ (by assumption)))))) ?_; intro v5 w5 h5 g5 _; have X15 : Ext w1 w5 := Ext.growT (show Ext w1 _ from (by with_reducible (repeat (first | exact Ext.rfl_ _ | assumption | refine Ext.drew ?_ | refine Ext.drewN ?_ _ | refine Ext.alloc ?_ _ | refine Ext.trans ?_ (by assumption))))) g5 (HO3.out.ext (by with_reducible (repeat (first | exact Ext.rfl_ _ | assumption | refine Ext.drew ?_ | refine Ext.drewN ?_ _ | refine Ext.alloc ?_ _ | refine Ext.trans ?_ (by assumption))))) (Nat.le_refl _); have HO5 := Lib.hid h5; obtain ⟨A5, c5, rfl, hc5, _⟩ := h5.form (by rw [List.length_append]; unfold B47; omega); have HO5 := HO5.out; rw [List.length_append] at HO5; have HO5 := Lib.hid HO5; have z35 : w3.heap.size ≤ w5.heap.size := (by have := X15.size; have := g5.size; simp at *; omega); (try (have HBO := Lib.hid ((g5.block _ (Array.getElem?_eq_some_iff.1 HBO.out).1 (fun e => by have h9 := (HO3.out.lt _ e.symm).2; omega)).trans HBO.out); have HFI := Lib.hid (And.intro X15 HO5.out))); clear h5 g5
        refine hK.out _ _ (by (try dsimp only); exact HSS.out _ (by with_reducible (repeat (first | exact Ext.rfl_ _ | assumption | refine Ext.drew ?_ | refine Ext.drewN ?_ _ | refine Ext.alloc ?_ _ | refine Ext.setCell ?_ (by first | (simp; done) | (simp; omega)) _ | refine Ext.trans ?_ (by assumption))))) (fun hHeld => ?_)
        clear hK K
        (try simp only [Act.put, List.getElem_toArray, List.getElem_cons_zero, List.getElem_cons_succ, List.setIfInBounds_toArray, List.set_cons_zero, List.set_cons_succ])
        refine wpAnyH_ready (rs := [13]) (by kernel_rfl) (by simp) ?_
        refine AllReadyH.cons (o := ({ dst := some 88, op := .build 24 #[(0, .tmp 76), (1, .tmp 78), (2, .tmp 80), (3, .tmp 82), (4, .tmp 87)], type := 24, pos := "edit.go:87", after := #[⟨1, .data⟩, ⟨3, .data⟩, ⟨5, .data⟩, ⟨7, .data⟩, ⟨12, .data⟩], guard := none } : Go.Oper)) rfl (fun K hK => ?_) AllReadyH.nil
        go_simp
        refine hK.out _ _ (by (try dsimp only); exact HSS.out _ (by with_reducible (repeat (first | exact Ext.rfl_ _ | assumption | refine Ext.drew ?_ | refine Ext.drewN ?_ _ | refine Ext.alloc ?_ _ | refine Ext.setCell ?_ (by first | (simp; done) | (simp; omega)) _ | refine Ext.trans ?_ (by assumption))))) (fun hHeld => ?_)
        clear hK K
        (try simp only [Act.put, List.getElem_toArray, List.getElem_cons_zero, List.getElem_cons_succ, List.setIfInBounds_toArray, List.set_cons_zero, List.set_cons_succ])
        refine wpAnyH_ready (rs := [15]) (by kernel_rfl) (by simp) ?_
        refine AllReadyH.cons (o := ({ dst := none, op := .store 24 (.tmp 10) (.tmp 88), type := 0, pos := "edit.go:87", after := #[⟨14, .data⟩, ⟨13, .data⟩, ⟨12, .chain⟩, ⟨0, .phase⟩, ⟨1, .phase⟩, ⟨2, .phase⟩, ⟨3, .phase⟩, ⟨4, .phase⟩, ⟨5, .phase⟩, ⟨6, .phase⟩, ⟨7, .phase⟩, ⟨8, .phase⟩, ⟨9, .phase⟩, ⟨10, .phase⟩, ⟨11, .phase⟩, ⟨12, .phase⟩, ⟨13, .phase⟩, ⟨14, .phase⟩], guard := none } : Go.Oper)) rfl (fun K hK => ?_) AllReadyH.nil
        (try (obtain ⟨o0, o1, o2, o3, o4, p0, p1, p2, p3, p4⟩ := box5 HBO.out (Ext.rfl_ _))); go_simp
        refine hK.out _ _ (by (try dsimp only); exact HSS.out _ (by with_reducible (repeat (first | exact Ext.rfl_ _ | assumption | refine Ext.drew ?_ | refine Ext.drewN ?_ _ | refine Ext.alloc ?_ _ | refine Ext.setCell ?_ (by first | (simp; done) | (simp; omega)) _ | refine Ext.trans ?_ (by assumption))))) (fun hHeld => ?_)
        clear hK K
        (try simp only [Act.put, List.getElem_toArray, List.getElem_cons_zero, List.getElem_cons_succ, List.setIfInBounds_toArray, List.set_cons_zero, List.set_cons_succ])
        refine wpAnyH_done (by kernel_rfl) ?_ _
      all_goals
        refine hide_w (fun W' => W'.heap[o]? = some (.cells #[.int .i64 y.next, .int .i64 y.log, .int .i64 y.index, .int .i64 y.seq, .slice A5 ((keptT x y).length + y.add.length) c5] 24 (0, 0)) ∧ Ext w1 W' ∧ OwnT W' w1.heap.size (.slice A5 ((keptT x y).length + y.add.length) c5) (keptT x y ++ y.add)) ⟨set5 HBO.out _ _ _ _ _, extSet5 HFI.out.1 (by omega) _ _ _ _ _, HFI.out.2.other HBO.out (by decide) (by decide) noU8 (grown5 _ _ _ _ _ _ _)⟩ ?_
        intro W6 hW6
        have HW6 := Lib.hid hW6
        obtain ⟨o0, o1, o2, o3, o4, _⟩ := box5 HW6.out.1 (Ext.rfl_ W6)
        clear hW6
        go_wp2_with (first | (go_at_call 20; refine (sortT_any w1.heap.size _ (keptT x y ++ y.add) _ HW6.out.2.2 (by rw [List.length_append]; omega)).mono ?_; rintro e w7 ⟨rfl, S, hp, hs, ho7, hg7⟩; have HP := Lib.hid hp; have HS7 := Lib.hid hs; have HO7 := Lib.hid ho7; have HB7 := Lib.hid ((hg7.block _ (Array.getElem?_eq_some_iff.1 HW6.out.1).1 (HW6.out.2.2.apart HW6.out.1 (by decide))).trans HW6.out.1); obtain ⟨o0, o1, o2, o3, o4, _⟩ := box5 HB7.out (Ext.rfl_ w7); have X7 := Lib.hid (HW6.out.2.1.grown hg7 (fun k hk => (HW6.out.2.2.lt k hk).1)); clear hp hs ho7 hg7; have HSL : Hid (S.length = (keptT x y).length + y.add.length) := Lib.hid (by rw [HP.out.length_eq, List.length_append]); have HV7 := ownT_ver y HO7.out HSL.out (by unfold B47; omega); obtain ⟨bm, hbm⟩ : ∃ bm, mayT (outT y S) = bm := ⟨_, rfl⟩; cases bm) | (go_at_call 13; refine (emay_any _ (outT y S) _ HV7.out (by show S.length ≤ _; have := HSL.out; omega)).mono ?_; rintro e w8 ⟨rfl, hw8⟩; rw [hbm]; have HC28 := Lib.hid (((Ext.below (E1.out.trans (X7.out.trans hw8))).block _ (Array.getElem?_eq_some_iff.1 HC2.out).1).trans HC2.out); have X8 := Lib.hid (X1.out.trans (X7.out.trans hw8)); obtain ⟨r0, r1, r2, r3, r4, s0, s1, s2, s3, s4⟩ := box5 HC28.out (Ext.rfl_ _); obtain ⟨o0, o1, o2, o3, o4, _⟩ := box5 HB7.out hw8; have HO8 := Lib.hid (HO7.out.ext hw8)))
        · have hm : ¬ MayT (outT y S) := fun h => by rw [← mayT_yes h] at hbm; cases hbm
          have HR : Hid (DoR x y nilV 9) := Lib.hid ⟨fun h => absurd ⟨HND.out, HMY.out⟩ h, fun _ _ => ⟨fun h => absurd HOK.out h, fun _ => ⟨S, HP.out, HS7.out, fun h => absurd h hm, fun _ => ⟨rfl, rfl⟩⟩⟩⟩
          obtain ⟨z0, z1, z2, z3, z4, _⟩ := box5 (set5 HC28.out (.int .i64 0) (.int .i64 0) (.int .i64 0) (.int .i64 0) (.slice none 0 0)) (Ext.rfl_ _); refine bodyPost_ret (v := .tuple #[.agg #[.int .i64 0, .int .i64 0, .int .i64 0, .int .i64 0, .slice none 0 0], .int .i64 9]) (by simp [results, Tryz.f7, go_sem, z0, z1, z2, z3, z4]) rfl ?_; exact ⟨_, nilV, _, rfl, ⟨0, none, 0, 0, rfl, OwnT.nil _ _, Nat.zero_le _⟩, HR.out, extSet5 X8.out (by have := EQ.out; omega) _ _ _ _ _⟩
        · have hm : MayT (outT y S) := (mayT_iff _).1 hbm
          have HR : Hid (DoR x y (outT y S) 0) := Lib.hid ⟨fun h => absurd ⟨HND.out, HMY.out⟩ h, fun _ _ => ⟨fun h => absurd HOK.out h, fun _ => ⟨S, HP.out, HS7.out, fun _ => ⟨rfl, rfl⟩, fun h => absurd hm h⟩⟩⟩
          have HO9 := Lib.hid (HO8.out.other HC28.out (by decide) (by decide) noU8 (grown5 _ _ (.int .i64 y.next) (.int .i64 y.log) (.int .i64 y.index) (.int .i64 y.seq) (.slice A5 ((keptT x y).length + y.add.length) c5)))
          obtain ⟨z0, z1, z2, z3, z4, _⟩ := box5 (set5 HC28.out (.int .i64 y.next) (.int .i64 y.log) (.int .i64 y.index) (.int .i64 y.seq) (.slice A5 ((keptT x y).length + y.add.length) c5)) (Ext.rfl_ _)
          refine bodyPost_ret (v := .tuple #[.agg #[.int .i64 y.next, .int .i64 y.log, .int .i64 y.index, .int .i64 y.seq, .slice A5 ((keptT x y).length + y.add.length) c5], .int .i64 0]) (by simp [results, Tryz.f7, go_sem, z0, z1, z2, z3, z4]) rfl ?_
          exact ⟨_, outT y S, _, rfl, ⟨_, _, _, _, rfl, HO9.out, by show S.length ≤ _; have := HSL.out; unfold B47; omega⟩, HR.out, extSet5 X8.out (by have := EQ.out; omega) _ _ _ _ _⟩

end Go.Proofs.YteooaplimiifiaaGreat
