/- The reference's Frames and Odd. Conditions: the bytes read. -/
import Derived.Test.YthdahmicjlplcaaFrmE
import Derived.Test.YthdahmicjlplcaaOwnBB
import Derived.Test.YthdahmicjlplcaaKx
import Derived.Test.YthdahmicjlplcaaSame
namespace Go.Proofs.Ythdahmicjlplcaa
set_option linter.unusedSimpArgs false
set_option linter.unusedVariables false
open Go.RowKit

theorem row_at {w : World} {base size n : Nat} {e : TypeId} {v : Value} {xs : List Value} (h : w.ownsRow base e size v n xs) : ∀ g, v.ownBlock = some g → base ≤ g ∧ ∃ cs fr, w.heap[g]? = some (.cells cs e fr) := by
  rcases h.2 with ⟨rfl, _⟩ | ⟨g', cap, cur, rfl, hb, hg', _⟩
  · intro g hg; cases hg
  · intro g hg
    simp [Value.ownBlock] at hg
    subst hg
    exact ⟨hb, _, _, hg'⟩
/-- As OwnBB, each slice within its capacity. -/
def OwnBC (w : World) (base : Nat) (v : Value) (xs : List Bs) : Prop :=
  ∃ hs : List Sl, hs.length = xs.length ∧ w.ownsRow base 29 1 v xs.length (hs.map slV) ∧ ∀ k (h1 : k < hs.length) (h2 : k < xs.length), Rd w hs[k].A hs[k].n xs[k] ∧ Apt w base hs[k].A hs[k].n ∧ hs[k].n ≤ hs[k].c
theorem OwnBC.bb {w : World} {base : Nat} {v : Value} {xs : List Bs} (h : OwnBC w base v xs) : OwnBB w base v xs := by
  obtain ⟨hs, hl, ho, hx⟩ := h
  exact ⟨hs, hl, ho, fun k i1 i2 => ⟨(hx k i1 i2).1, (hx k i1 i2).2.1⟩⟩
theorem OwnBC.grownT {w w' : World} {base : Nat} {v : Value} {xs : List Bs} {row : Option Nat} {t : TypeId} (h : OwnBC w base v xs) (h1 : t ≠ 5) (h2 : 29 ≠ t) (hg : w.grownBy w' row) (hr : ∀ g, row = some g → base ≤ g ∧ ∃ cs fr, w.heap[g]? = some (.cells cs t fr)) : OwnBC w' base v xs := by
  obtain ⟨hs, hl, ho, hx⟩ := h
  exact ⟨hs, hl, ownsRow_kx ho (Kx.of_grown hg (fun g e => (hr g e).2)) h2, fun k i1 i2 => ⟨(hx k i1 i2).1.grownT (hx k i1 i2).2.1 h1 hg hr, (hx k i1 i2).2.1.grownT h1 hg hr, (hx k i1 i2).2.2⟩⟩
theorem OwnBC.row {w : World} {base : Nat} {v : Value} {xs : List Bs} (h : OwnBC w base v xs) : ∀ g, v.ownBlock = some g → base ≤ g ∧ ∃ cs fr, w.heap[g]? = some (.cells cs 29 fr) := by
  obtain ⟨hs, hl, ho, hx⟩ := h
  exact row_at ho
theorem OwnBC.nil (w : World) (base : Nat) : OwnBC w base (.slice none 0 0) [] := ⟨[], rfl, World.ownsRow_nil _ _ _ _, fun k h1 => absurd h1 (by simp)⟩
theorem OwnBC.ext {w w' : World} {base : Nat} {v : Value} {xs : List Bs} (h : OwnBC w base v xs) (hx : Ext w w') : OwnBC w' base v xs := by
  obtain ⟨hs, hl, ho, hr⟩ := h
  exact ⟨hs, hl, ownsRow_kx (T := 3) ho (Kx.of_ext hx) (by decide), fun k i1 i2 => ⟨(hr k i1 i2).1.ext hx, (hr k i1 i2).2.1.ext hx, (hr k i1 i2).2.2⟩⟩
/-- A slice of byte slices, each within its capacity. -/
def RdBC (w : World) (A : Option Addr) (n : Nat) (xs : List Bs) : Prop :=
  xs.length = n ∧ ∀ k, k < n → ∃ b o A' n' c' x, A = some ⟨b, o, none⟩ ∧ w.cell? ⟨b, o + k, none⟩ = some (.slice A' n' c') ∧ xs[k]? = some x ∧ Rd w A' n' x ∧ n' ≤ c'
theorem RdBC.ext {w w' : World} {A : Option Addr} {n : Nat} {xs : List Bs} (h : RdBC w A n xs) (he : Ext w w') : RdBC w' A n xs :=
  ⟨h.1, fun k hk => by
    obtain ⟨b, o, A', n', c', x, e, hc, hx, hr, hn⟩ := h.2 k hk
    exact ⟨b, o, A', n', c', x, e, he.keeps _ _ _ hc, hx, hr.ext he, hn⟩⟩
theorem OwnBC.form {w : World} {base : Nat} {v : Value} {xs : List Bs} (h : OwnBC w base v xs) : ∃ A n c, v = .slice A n c ∧ n ≤ c ∧ RdBC w A n xs := by
  obtain ⟨hs, hl, ho, hr⟩ := h
  rcases ho.2 with ⟨rfl, h0⟩ | ⟨g, cap, cur, rfl, hb, hg, hle, _⟩
  · obtain rfl : xs = [] := List.eq_nil_of_length_eq_zero h0
    exact ⟨none, 0, 0, rfl, Nat.le_refl _, rfl, fun k hk => absurd hk (by simp)⟩
  · refine ⟨some ⟨g, 0, none⟩, _, cap, rfl, hle, rfl, fun j hj => ?_⟩
    have hj' : j < hs.length := by omega
    have hcell := World.ownsRow.cellAt ho j (by omega)
    refine ⟨g, 0, hs[j].A, hs[j].n, hs[j].c, xs[j], rfl, ?_, List.getElem?_eq_getElem hj, (hr j hj' hj).1, (hr j hj' hj).2.2⟩
    rw [Nat.zero_add, hcell]
    simp [List.getElem?_eq_getElem hj', slV]

/-- 'append(row, x)' of one byte slice that was just laid in a block of its own. -/
theorem run_appBC (w : World) (ty : TypeId) (base : Nat) (v : Value) (xs : List Bs) (hown : OwnBC w base v xs) (A : Option Addr) (n c g : Nat) (y : Bs) (hc : w.cell? ⟨g, 0, none⟩ = some (.slice A n c)) (hr : Rd w A n y) (ha : Apt w base A n) (hnc : n ≤ c) (hsz : xs.length + 1 ≤ B40) (hbase : base ≤ w.heap.size) :
    ∃ v' w', (Builtin.append_ #[70, 70] ty #[v, .slice (some ⟨g, 0, none⟩) 1 1]).run Try.prog w = .ok v' w' ∧ OwnBC w' base v' (xs ++ [y]) ∧ w.grownBy w' v.ownBlock := by
  obtain ⟨i0, hi, hz0, hz1, hz2⟩ := info_parts Try.infoBB
  obtain ⟨hs, hl, ho, hrd⟩ := hown
  have hrow : ∀ g, v.ownBlock = some g → base ≤ g ∧ ∃ cs fr, w.heap[g]? = some (.cells cs 29 fr) := by
    rcases ho.2 with ⟨rfl, _⟩ | ⟨g', cap, cur, rfl, hb, hg', _⟩
    · intro g hg; cases hg
    · intro g hg
      simp [Value.ownBlock] at hg
      subst hg
      exact ⟨hb, _, _, hg'⟩
  unfold B40 at hsz
  obtain ⟨v', w', hrun, h1, h2, h3⟩ := run_append_own (P := Try.prog) w base 70 ty 29 i0 _ 1 24 Try.underlying70 hi hz0 hz1 hz2 rfl (by decide) v xs.length (hs.map slV) ho ⟨g, 0, none⟩ 1 1 [.slice A n c] rfl
    (by intro j u hj; match j with
        | 0 => simp at hj; subst hj; exact hc
        | j + 1 => simp at hj)
    (by intro u hu; simp at hu; subst hu; rfl) (by unfold maxLen; omega) (by omega) hbase
  refine ⟨v', w', hrun, ⟨hs ++ [⟨A, n, c⟩], by simp [hl], by rw [List.map_append, List.length_append]; exact h1, fun k k1 k2 => ?_⟩, h2⟩
  by_cases hk : k < hs.length
  · rw [List.getElem_append_left hk, List.getElem_append_left (by omega)]
    have := hrd k hk (by omega)
    exact ⟨this.1.grownT this.2.1 (by decide) h2 hrow, this.2.1.grownT (by decide) h2 hrow, this.2.2⟩
  · have : k = hs.length := by simp at k1; omega
    subst this
    rw [List.getElem_append_right (Nat.le_refl _), List.getElem_append_right (by omega)]
    have e : hs.length - xs.length = 0 := by omega
    simp only [Nat.sub_self, e, List.getElem_cons_zero]
    exact ⟨hr.grownT ha (by decide) h2 hrow, ha.grownT (by decide) h2 hrow, hnc⟩

theorem wp_appBC {ops : Array Oper} {rest : List Oper} {o : Oper} {a : Act} {w : World} {Q : Exit → Act → World → Prop} (hgd : o.guard = none) (s x : Operand)
    (ho : o.op = .call { callee := .builtin .append, args := #[s, x], argTypes := #[70, 70] })
    (base : Nat) (v : Value) (xs : List Bs) (hs : a.eval s = v) (hown : OwnBC w base v xs) (A : Option Addr) (n c g : Nat) (y : Bs) (hx : a.eval x = .slice (some ⟨g, 0, none⟩) 1 1) (hc : w.cell? ⟨g, 0, none⟩ = some (.slice A n c)) (hr : Rd w A n y) (ha : Apt w base A n) (hnc : n ≤ c)
    (hsz : xs.length + 1 ≤ B40) (hbase : base ≤ w.heap.size)
    (h : ∀ v' w', OwnBC w' base v' (xs ++ [y]) → w.grownBy w' v.ownBlock → wpList Try.prog ops Q rest (a.put o.dst v') w') : wpList Try.prog ops Q (o :: rest) a w := by
  refine wpList_plain hgd fun K hK => ?_
  obtain ⟨v', w', hrun, h1, h2⟩ := run_appBC w o.type base v xs hown A n c g y hc hr ha hnc hsz hbase
  unfold Oper.wp
  simp [execOp, ho, resolve, invoke, builtin, hs, hx, hrun, Result.andThen]
  exact hK _ _ (h v' w' h1 h2)

theorem OwnI.row {w : World} {base : Nat} {v : Value} {ps : List Int} (h : OwnI w base v ps) : ∀ g, v.ownBlock = some g → base ≤ g ∧ ∃ cs fr, w.heap[g]? = some (.cells cs 3 fr) := row_at h

def placesF (ps : List Bs) : List Int := (atsF 0 ps).map fun q => (q.1 : Int)
theorem placesF_snoc (ps : List Bs) (p : Bs) : placesF (ps ++ [p]) = placesF ps ++ [(endF ps : Int)] := by
  unfold placesF
  rw [atsF_app, List.map_append]
  simp [atsF]
theorem placesF_len (ps : List Bs) : (placesF ps).length = ps.length := by unfold placesF; rw [List.length_map, atsF_len]
theorem len_endF (ps : List Bs) : ps.length ≤ endF ps := by
  induction ps with
  | nil => exact Nat.le_refl _
  | cons a ps ih => simp [endF]; omega

theorem cnewB (w : World) (v : Value) (t : TypeId) : (w.alloc (.cells #[v] t)).cell? ⟨w.heap.size, 0, none⟩ = some v ∧ (w.alloc (.cells #[v] t)).frozen? ⟨w.heap.size, 0, none⟩ = false := by
  have h := heap_alloc_new w (.cells #[v] t)
  exact ⟨by unfold World.cell?; simp only [h]; rfl, by unfold World.frozen?; simp only [h]; rfl⟩

structure FrsI (w : World) (x : Bs) (k : Nat) (ps : List Bs) (va vl : Value) (wr : World) : Prop where
  gf : GF x ps k
  ints : OwnI wr w.heap.size va (placesF ps)
  rows : OwnBC wr w.heap.size vl ps
  ext : Ext w wr

set_option maxRecDepth 100000 in
set_option maxHeartbeats 8000000 in
theorem rframes_any (A : Option Addr) (n c : Nat) (x : Bs) (w : World) (hx : Rd w A n x) (hnc : n ≤ c) (hn : n ≤ 1000000) :
    Calls Try.prog 45 #[.slice A n c] w fun e w' => ∃ va vl, e = .returned (.tuple #[va, vl, .int .i64 (endF (frs x) : Nat)]) ∧ OwnI w' w.heap.size va (placesF (frs x)) ∧ OwnBC w' w.heap.size vl (frs x) ∧ Ext w w' := by
  have hxl := hx.1
  have HX := Lib.hid hx
  clear hx
  go_enter Try.func45, Try.ntmps45
  go_wp2
  go_loopw [5, 6, 7] (fun ua ul i wr => ∃ (k : Nat) (ps : List Bs) (va vl : Value), ua = va ∧ ul = vl ∧ i = .int .i64 k ∧ k ≤ n ∧ Hid (FrsI w x k ps va vl wr)) (fun _ _ i _ => n - (intOf i).toNat)
  case atStart => exact ⟨0, [], _, _, rfl, rfl, rfl, Nat.zero_le _, Lib.hid ⟨GF.start x, World.ownsRow_nil _ _ _ _, OwnBC.nil _ _, Ext.rfl_ w⟩⟩
  case round =>
    obtain ⟨k, ps, va, vl, rfl, rfl, rfl, hk, HI⟩ := hrel
    have hlk : (x.drop k).length = n - k := by rw [List.length_drop, hxl]
    have hwr : IntKind.i64.wrap ((n : Int) - (k : Int)) = ((n - k : Nat) : Int) := by rw [IntKind.wrap_i64]; omega
    by_cases h8 : (8 : Int) ≤ ((n - k : Nat) : Int)
    · obtain ⟨b, o, rfl, _⟩ := HX.out.2 (by omega)
      have hck : ¬ c = k := by omega
      have hcc : (k : Int) ≤ (c : Int) := by omega
      have hnn : (k : Int) ≤ (n : Int) := by omega
      obtain ⟨N, hN⟩ : ∃ N, N = nF (x.drop k) := ⟨_, rfl⟩
      have hu : un4 ((x.drop k).take 4) = N := by rw [hN]; rfl
      have HU := Lib.hid hu
      have HN := Lib.hid hN
      have hN32 : N < 4294967296 := by rw [hN]; exact un4_lt _
      have HXT := Lib.hid ((HX.out.back k hk).ext HI.out.ext)
      have hwr8 : IntKind.i64.wrap (((n - k : Nat) : Int) - 8) = ((n - k : Nat) : Int) - 8 := by rw [IntKind.wrap_i64]; omega
      have hF : isF (x.drop k) = wholeF (x.drop k) N := by
        rw [isF_whole, decide_eq_true (by omega : 8 ≤ (x.drop k).length), Bool.true_and, hN]
      have HF := Lib.hid hF
      clear hN hu hF
      by_cases hm : mayF N = true
      · have HM := Lib.hid hm
        by_cases hfit : ((n - k : Nat) : Int) - 8 < (N : Int)
        · have hno : ¬ isF (x.drop k) = true := by
            rw [HF.out]
            unfold wholeF
            rw [decide_eq_false (by omega : ¬ N + 8 ≤ (x.drop k).length)]
            simp
          have HE := Lib.hid (HI.out.gf.end_ hno)
          have HR : Hid (OwnI wr w.heap.size u5 (placesF (frs x)) ∧ OwnBC wr w.heap.size u6 (frs x)) := Lib.hid (by rw [HE.out.1]; exact ⟨HI.out.ints, HI.out.rows⟩)
          have HXE := Lib.hid HI.out.ext
          clear hno hlk hm
          go_wp2_with (first | (go_at_call 75; refine (rlength_any b (o + k) (n - k) (c - k) (x.drop k) _ (HXT.out.ext (by with_reducible (repeat (first | exact Ext.rfl_ _ | assumption | refine Ext.drew ?_ | refine Ext.drewN ?_ _ | refine Ext.alloc ?_ _ | refine Ext.trans ?_ (by assumption))))) (by omega)).mono ?_; rintro e w2 ⟨rfl, hw2⟩; rw [HU.out]) | (go_at_call 76; refine (rmay4_any N _).mono ?_; rintro e w3 ⟨rfl, rfl⟩; rw [HM.out]))
          refine bodyPost_ret (v := .tuple #[u5, u6, .int .i64 (k : Nat)]) (by simp [results, Try.f45, go_sem]) rfl ?_
          exact ⟨u5, u6, by rw [← HE.out.2.2], OwnI.ext HR.out.1 (show Ext wr _ from (by with_reducible (repeat (first | exact Ext.rfl_ _ | assumption | refine Ext.drew ?_ | refine Ext.drewN ?_ _ | refine Ext.alloc ?_ _ | refine Ext.trans ?_ (by assumption))))), OwnBC.ext HR.out.2 (show Ext wr _ from (by with_reducible (repeat (first | exact Ext.rfl_ _ | assumption | refine Ext.drew ?_ | refine Ext.drewN ?_ _ | refine Ext.alloc ?_ _ | refine Ext.trans ?_ (by assumption))))), (show Ext w _ from HXE.out.trans (by with_reducible (repeat (first | exact Ext.rfl_ _ | assumption | refine Ext.drew ?_ | refine Ext.drewN ?_ _ | refine Ext.alloc ?_ _ | refine Ext.trans ?_ (by assumption)))))⟩
        · have hfits : N + 8 ≤ (x.drop k).length := by omega
          have hmm := hm
          unfold mayF at hmm
          simp only [decide_eq_true_eq] at hmm
          have w1_ : IntKind.i64.wrap ((k : Int) + 8) = ((k + 8 : Nat) : Int) := by rw [IntKind.wrap_i64]; omega
          have w2_ : IntKind.i64.wrap (((k + 8 : Nat) : Int) + (N : Int)) = ((k + 8 + N : Nat) : Int) := by rw [IntKind.wrap_i64]; omega
          have w3_ : IntKind.u32.wrap (N : Int) = (N : Int) := by rw [IntKind.wrap_u32]; omega
          have w4_ : IntKind.i64.wrap ((k : Int) + 4) = ((k + 4 : Nat) : Int) := by rw [IntKind.wrap_i64]; omega
          have c1_ : ((k + 8 : Nat) : Int) ≤ ((k + 8 + N : Nat) : Int) := by omega
          have c2_ : ((k + 8 + N : Nat) : Int) ≤ (c : Int) := by omega
          have c3_ : ¬ c = k + 8 := by omega
          have c4_ : ¬ c = k + 4 := by omega
          have c5_ : ((k + 4 : Nat) : Int) ≤ ((k + 8 : Nat) : Int) := by omega
          have c6_ : ((k + 8 : Nat) : Int) ≤ (c : Int) := by omega
          have HXE := Lib.hid HI.out.ext
          have HXP := Lib.hid ((HX.out.mid (k + 8) N (by omega)).ext HI.out.ext)
          have HX4 := Lib.hid ((HX.out.mid (k + 4) 4 (by omega)).ext HI.out.ext)
          clear hm
          obtain ⟨p, hp⟩ : ∃ p, p = (x.drop (k + 8)).take N := ⟨_, rfl⟩
          obtain ⟨q, hq⟩ : ∃ q, q = (x.drop (k + 4)).take 4 := ⟨_, rfl⟩
          have HXW := Lib.hid (HX.out.mid (k + 8) N (by omega))
          rw [← hp] at HXP HXW
          rw [← hq] at HX4
          have hql : q.length = 4 := HX4.out.1
          have hpl : p.length = N := HXP.out.1
          obtain ⟨C, hC⟩ : ∃ C, C = crcB (w4 N ++ p) := ⟨_, rfl⟩
          have hC32 : C < 4294967296 := by rw [hC]; exact crcB_lt _
          have HC := Lib.hid hC
          have hpy : plF (x.drop k) = p := by
            unfold plF
            rw [hp, ← HN.out, List.drop_drop]
          have hFq : isF (x.drop k) = decide (w4 C = q) := by
            rw [HF.out]
            unfold wholeF
            have h4 : (x.drop k).take 4 = w4 N := by rw [← HU.out, w4_un4 (by rw [List.length_take]; omega)]
            have hq' : ((x.drop k).drop 4).take 4 = q := by rw [List.drop_drop, hq]
            have hp' : ((x.drop k).drop 8).take N = p := by rw [List.drop_drop, hp]
            rw [HM.out, decide_eq_true hfits, Bool.true_and, Bool.true_and, h4, hq', hp', ← hC]
            refine decide_eq_decide.2 ⟨fun h => ?_, fun h => ?_⟩
            · rw [h, w4_un4 hql]
            · rw [← h, un4_w4 hC32]
          have HFQ := Lib.hid hFq
          have HPY := Lib.hid hpy
          clear hp hq hC hpy hFq
          go_wp2_with (first | (go_at_call 75; refine (rlength_any b (o + k) (n - k) (c - k) (x.drop k) _ (HXT.out.ext (by with_reducible (repeat (first | exact Ext.rfl_ _ | assumption | refine Ext.drew ?_ | refine Ext.drewN ?_ _ | refine Ext.alloc ?_ _ | refine Ext.trans ?_ (by assumption))))) (by omega)).mono ?_; rintro e w2 ⟨rfl, hw2⟩; rw [HU.out]) | (go_at_call 76; refine (rmay4_any N _).mono ?_; rintro e w3 ⟨rfl, rfl⟩; rw [HM.out]) | (go_at_call 36; with_reducible refine (rword4_any N _ hN32).mono ?_; rintro e w5 ⟨v5, rfl, o5, hw5⟩; have O5 := Lib.hid (o5.mono hw2.size); have X5 := Lib.hid (hw2.trans hw5); clear o5 hw5 hw2) | (at_builtin; refine wp_app rfl _ _ rfl wr.heap.size v5 (w4 N) rfl O5.out (some ⟨b, o + (k + 8), none⟩) N (c - (k + 8)) p rfl (HXP.out.ext X5.out) (by rw [w4_len, hpl]; unfold B47; omega) X5.out.size ?_; intro v6 w6 o6 g6; have X6 := Lib.hid (Ext.growBy X5.out g6 O5.out (Nat.le_refl _)); obtain ⟨A6, n6, c6, rfl, hc6, r6, _⟩ := o6.formN; obtain rfl : n6 = 4 + N := (by rw [← r6.1, List.length_append, w4_len, hpl]); have R6 := Lib.hid r6; clear o6 g6 r6) | (go_at_call 37; refine (rsum_any A6 (4 + N) c6 _ _ R6.out (by unfold B47; omega)).mono ?_; rintro e w7 ⟨rfl, rfl⟩; rw [← HC.out]) | (go_at_call 36; with_reducible refine (rword4_any C _ hC32).mono ?_; rintro e w8 ⟨v8, rfl, o8, hw8⟩; obtain ⟨A8, c8, rfl, hc8, r8, _⟩ := o8.form; rw [w4_len] at r8 ⊢; have R8 := Lib.hid r8; have X8 := Lib.hid (X6.out.trans hw8); clear o8 hw8 r8))
          have f1 : 0 ≤ (k : Int) + 8 := by omega
          have f2 : (k : Int) + 8 ≤ (c : Int) := by omega
          have f3 : 0 ≤ (k : Int) + 4 := by omega
          have f4 : (k : Int) + 4 ≤ max ((k : Int) + 8) 0 := by omega
          have f5 : ((k : Int) + 4).toNat = k + 4 := by omega
          have f6 : ((k : Int) + 8).toNat - (k + 4) = 4 := by omega
          by_cases hq : w4 C = q
          · have hyes : isF (x.drop k) = true := by rw [HFQ.out]; exact decide_eq_true hq
            have HG := Lib.hid (HI.out.gf.step hyes)
            rw [HPY.out, ← HN.out] at HG
            have R8q := Lib.hid (show Rd w8 A8 4 q from hq ▸ R8.out)
            have s1 : ((⟨q.toArray⟩ : ByteArray) == ⟨q.toArray⟩) = true := str_eq _
            have s2 : ((⟨q.toArray⟩ : ByteArray) != ⟨q.toArray⟩) = false := by simp [bne, s1]
            clear hq hyes hlk
            refine wp_region_held_drew (S := (fun w' => True)) (by kernel_rfl) (by (try dsimp only); try exact trivial) (fun hHeld => ?_)
            refine wpAnyH_take (i := 0) (oi := ({ dst := some 47, op := Go.Op.move (Go.Operand.tmp 10), type := 29, pos := "ref.go:46", after := #[], guard := none } : Go.Oper)) (v := ?v1) rfl (by kernel_rfl) (by kernel_rfl) (by kernel_rfl) (fun _ _ _ h => h) (Or.inl ⟨by rfl, ?hy1⟩) (by assumption) ?rest1
            case hy1 => (intro w hSw; (try dsimp only at hSw); go_simp; (try with_reducible rfl))
            (try simp only [Act.put, List.getElem_toArray, List.getElem_cons_zero, List.getElem_cons_succ, List.setIfInBounds_toArray, List.set_cons_zero, List.set_cons_succ])
            refine wpAnyH_take (i := 2) (oi := ({ dst := some 49, op := Go.Op.move (Go.Operand.tmp 0), type := 29, pos := "ref.go:46", after := #[], guard := none } : Go.Oper)) (v := ?v2) rfl (by kernel_rfl) (by kernel_rfl) (by kernel_rfl) (fun _ _ _ h => h) (Or.inl ⟨by rfl, ?hy2⟩) (by assumption) ?rest2
            case hy2 => (intro w hSw; (try dsimp only at hSw); go_simp; (try with_reducible rfl))
            (try simp only [Act.put, List.getElem_toArray, List.getElem_cons_zero, List.getElem_cons_succ, List.setIfInBounds_toArray, List.set_cons_zero, List.set_cons_succ])
            refine wpAnyH_take (i := 3) (oi := ({ dst := some 50, op := Go.Op.move (Go.Operand.tmp 7), type := 3, pos := "ref.go:46", after := #[], guard := none } : Go.Oper)) (v := ?v3) rfl (by kernel_rfl) (by kernel_rfl) (by kernel_rfl) (fun _ _ _ h => h) (Or.inl ⟨by rfl, ?hy3⟩) (by assumption) ?rest3
            case hy3 => (intro w hSw; (try dsimp only at hSw); go_simp; (try with_reducible rfl))
            (try simp only [Act.put, List.getElem_toArray, List.getElem_cons_zero, List.getElem_cons_succ, List.setIfInBounds_toArray, List.set_cons_zero, List.set_cons_succ])
            refine wpAnyH_take (i := 4) (oi := ({ dst := some 51, op := Go.Op.binOp Go.BinOp.add 3 (Go.Operand.tmp 50) (Go.Operand.const (Go.Value.int Go.IntKind.i64 4)) 3, type := 3, pos := "ref.go:46", after := #[{ on := 3, ground := Go.Ground.data }], guard := none } : Go.Oper)) (v := ?v4) rfl (by kernel_rfl) (by kernel_rfl) (by kernel_rfl) (fun _ _ _ h => h) (Or.inl ⟨by rfl, ?hy4⟩) (by assumption) ?rest4
            case hy4 => (intro w hSw; (try dsimp only at hSw); go_simp; (try with_reducible rfl))
            (try simp only [Act.put, List.getElem_toArray, List.getElem_cons_zero, List.getElem_cons_succ, List.setIfInBounds_toArray, List.set_cons_zero, List.set_cons_succ])
            refine wpAnyH_take (i := 5) (oi := ({ dst := some 52, op := Go.Op.move (Go.Operand.tmp 7), type := 3, pos := "ref.go:46", after := #[], guard := none } : Go.Oper)) (v := ?v5) rfl (by kernel_rfl) (by kernel_rfl) (by kernel_rfl) (fun _ _ _ h => h) (Or.inl ⟨by rfl, ?hy5⟩) (by assumption) ?rest5
            case hy5 => (intro w hSw; (try dsimp only at hSw); go_simp; (try with_reducible rfl))
            (try simp only [Act.put, List.getElem_toArray, List.getElem_cons_zero, List.getElem_cons_succ, List.setIfInBounds_toArray, List.set_cons_zero, List.set_cons_succ])
            refine wpAnyH_take (i := 6) (oi := ({ dst := some 53, op := Go.Op.binOp Go.BinOp.add 3 (Go.Operand.tmp 52) (Go.Operand.const (Go.Value.int Go.IntKind.i64 8)) 3, type := 3, pos := "ref.go:46", after := #[{ on := 5, ground := Go.Ground.data }], guard := none } : Go.Oper)) (v := ?v6) rfl (by kernel_rfl) (by kernel_rfl) (by kernel_rfl) (fun _ _ _ h => h) (Or.inl ⟨by rfl, ?hy6⟩) (by assumption) ?rest6
            case hy6 => (intro w hSw; (try dsimp only at hSw); go_simp; (try with_reducible rfl))
            (try simp only [Act.put, List.getElem_toArray, List.getElem_cons_zero, List.getElem_cons_succ, List.setIfInBounds_toArray, List.set_cons_zero, List.set_cons_succ])
            refine wpAnyH_take (i := 7) (oi := ({ dst := some 54, op := Go.Op.slice 29 (Go.Operand.tmp 49) (some (Go.Operand.tmp 51)) (some (Go.Operand.tmp 53)) none, type := 29, pos := "ref.go:46", after := #[{ on := 2, ground := Go.Ground.data }, { on := 4, ground := Go.Ground.data }, { on := 6, ground := Go.Ground.data }], guard := none } : Go.Oper)) (v := ?v7) rfl (by kernel_rfl) (by kernel_rfl) (by kernel_rfl) (fun _ _ _ h => h) (Or.inl ⟨by rfl, ?hy7⟩) (by assumption) ?rest7
            case hy7 => (intro w hSw; (try dsimp only at hSw); go_simp; (try with_reducible rfl))
            (try simp only [Act.put, List.getElem_toArray, List.getElem_cons_zero, List.getElem_cons_succ, List.setIfInBounds_toArray, List.set_cons_zero, List.set_cons_succ])
            refine wpAnyH_ready (rs := [1, 8]) (by kernel_rfl) (by simp) ?_
            refine AllReadyH.cons (o := ({ dst := some 48, op := Go.Op.convert 29 9 (Go.Operand.tmp 47), type := 9, pos := "ref.go:46", after := #[{ on := 0, ground := Go.Ground.data }], guard := none } : Go.Oper)) rfl (fun K hK => ?one8) ?more8
            case' one8 =>
              go_simp; rw [Rd.str (P := Try.prog) (x := q) (?_ : Rd _ A8 4 (q)) c8 29 5 9 Try.underlying29 Try.underlying5 Try.underlying9]; rotate_left; exact (R8q.out.ext (by with_reducible (repeat (first | exact Ext.rfl_ _ | assumption | refine Ext.drew ?_ | refine Ext.drewN ?_ _ | refine Ext.alloc ?_ _ | refine Ext.trans ?_ (by assumption))))); simp only [Result.andThen]; go_simp
              refine hK.out _ _ (by (try dsimp only); try exact trivial) (fun hHeld => ?_)
              clear hK K
              (try simp only [Act.put, List.getElem_toArray, List.getElem_cons_zero, List.getElem_cons_succ, List.setIfInBounds_toArray, List.set_cons_zero, List.set_cons_succ])
              refine wpAnyH_ready (rs := [8]) (by kernel_rfl) (by simp) ?_
              refine AllReadyH.cons (o := ({ dst := some 55, op := Go.Op.convert 29 9 (Go.Operand.tmp 54), type := 9, pos := "ref.go:46", after := #[{ on := 7, ground := Go.Ground.data }], guard := none } : Go.Oper)) rfl (fun K hK => ?_) AllReadyH.nil
              go_simp; rw [Rd.str (P := Try.prog) (x := q) (?_ : Rd _ (some ⟨b, o + (k + 4), none⟩) 4 (q)) (c - (k + 4)) 29 5 9 Try.underlying29 Try.underlying5 Try.underlying9]; rotate_left; exact (HX4.out.ext (X8.out.trans (by with_reducible (repeat (first | exact Ext.rfl_ _ | assumption | refine Ext.drew ?_ | refine Ext.drewN ?_ _ | refine Ext.alloc ?_ _ | refine Ext.trans ?_ (by assumption)))))); simp only [Result.andThen]; go_simp
              refine hK.out _ _ (by (try dsimp only); try exact trivial) (fun hHeld => ?_)
              clear hK K
              (try simp only [Act.put, List.getElem_toArray, List.getElem_cons_zero, List.getElem_cons_succ, List.setIfInBounds_toArray, List.set_cons_zero, List.set_cons_succ])
              refine wpAnyH_take (i := 9) (oi := ({ dst := some 56, op := Go.Op.binOp Go.BinOp.neq 9 (Go.Operand.tmp 48) (Go.Operand.tmp 55) 9, type := 4, pos := "ref.go:46", after := #[{ on := 1, ground := Go.Ground.data }, { on := 8, ground := Go.Ground.data }], guard := none } : Go.Oper)) (v := ?v9) rfl (by kernel_rfl) (by kernel_rfl) (by kernel_rfl) (fun _ _ _ h => h) (Or.inl ⟨by rfl, ?hy9⟩) (by assumption) ?rest9
              case hy9 => (intro w hSw; (try dsimp only at hSw); go_simp; (try with_reducible rfl))
              (try simp only [Act.put, List.getElem_toArray, List.getElem_cons_zero, List.getElem_cons_succ, List.setIfInBounds_toArray, List.set_cons_zero, List.set_cons_succ])
              refine wpAnyH_done (by kernel_rfl) ?_ _
            case' more8 =>
              refine AllReadyH.cons (o := ({ dst := some 55, op := Go.Op.convert 29 9 (Go.Operand.tmp 54), type := 9, pos := "ref.go:46", after := #[{ on := 7, ground := Go.Ground.data }], guard := none } : Go.Oper)) rfl (fun K hK => ?_) AllReadyH.nil
              go_simp; rw [Rd.str (P := Try.prog) (x := q) (?_ : Rd _ (some ⟨b, o + (k + 4), none⟩) 4 (q)) (c - (k + 4)) 29 5 9 Try.underlying29 Try.underlying5 Try.underlying9]; rotate_left; exact (HX4.out.ext (X8.out.trans (by with_reducible (repeat (first | exact Ext.rfl_ _ | assumption | refine Ext.drew ?_ | refine Ext.drewN ?_ _ | refine Ext.alloc ?_ _ | refine Ext.trans ?_ (by assumption)))))); simp only [Result.andThen]; go_simp
              refine hK.out _ _ (by (try dsimp only); try exact trivial) (fun hHeld => ?_)
              clear hK K
              (try simp only [Act.put, List.getElem_toArray, List.getElem_cons_zero, List.getElem_cons_succ, List.setIfInBounds_toArray, List.set_cons_zero, List.set_cons_succ])
              refine wpAnyH_ready (rs := [1]) (by kernel_rfl) (by simp) ?_
              refine AllReadyH.cons (o := ({ dst := some 48, op := Go.Op.convert 29 9 (Go.Operand.tmp 47), type := 9, pos := "ref.go:46", after := #[{ on := 0, ground := Go.Ground.data }], guard := none } : Go.Oper)) rfl (fun K hK => ?_) AllReadyH.nil
              go_simp; rw [Rd.str (P := Try.prog) (x := q) (?_ : Rd _ A8 4 (q)) c8 29 5 9 Try.underlying29 Try.underlying5 Try.underlying9]; rotate_left; exact (R8q.out.ext (by with_reducible (repeat (first | exact Ext.rfl_ _ | assumption | refine Ext.drew ?_ | refine Ext.drewN ?_ _ | refine Ext.alloc ?_ _ | refine Ext.trans ?_ (by assumption))))); simp only [Result.andThen]; go_simp
              refine hK.out _ _ (by (try dsimp only); try exact trivial) (fun hHeld => ?_)
              clear hK K
              (try simp only [Act.put, List.getElem_toArray, List.getElem_cons_zero, List.getElem_cons_succ, List.setIfInBounds_toArray, List.set_cons_zero, List.set_cons_succ])
              refine wpAnyH_take (i := 9) (oi := ({ dst := some 56, op := Go.Op.binOp Go.BinOp.neq 9 (Go.Operand.tmp 48) (Go.Operand.tmp 55) 9, type := 4, pos := "ref.go:46", after := #[{ on := 1, ground := Go.Ground.data }, { on := 8, ground := Go.Ground.data }], guard := none } : Go.Oper)) (v := ?v10) rfl (by kernel_rfl) (by kernel_rfl) (by kernel_rfl) (fun _ _ _ h => h) (Or.inl ⟨by rfl, ?hy10⟩) (by assumption) ?rest10
              case hy10 => (intro w hSw; (try dsimp only at hSw); go_simp; (try with_reducible rfl))
              (try simp only [Act.put, List.getElem_toArray, List.getElem_cons_zero, List.getElem_cons_succ, List.setIfInBounds_toArray, List.set_cons_zero, List.set_cons_succ])
              refine wpAnyH_done (by kernel_rfl) ?_ _
            all_goals
              have X9 := Lib.hid (show Ext wr w8.drew from X8.out.trans (by with_reducible (repeat (first | exact Ext.rfl_ _ | assumption | refine Ext.drew ?_ | refine Ext.drewN ?_ _ | refine Ext.alloc ?_ _ | refine Ext.trans ?_ (by assumption)))))
              have O9 := Lib.hid (HI.out.ints.ext X9.out)
              have B9 := Lib.hid (HI.out.rows.ext X9.out)
              have XW9 := Lib.hid (HXE.out.trans X9.out)
              have P9 := Lib.hid (HXP.out.ext X9.out)
              have hps : ps.length ≤ 1000000 := by
                have := len_endF ps
                have := HI.out.gf.1
                omega
              have HPS := Lib.hid hps
              have HKE := Lib.hid HI.out.gf.1
              generalize w8.drew = w9 at X9 O9 B9 XW9 P9 ⊢
              clear hps
              have XA := Lib.hid (show Ext w9 (w9.alloc (.cells #[.int .i64 (k : Nat)] 3)) from (by with_reducible (repeat (first | exact Ext.rfl_ _ | assumption | refine Ext.drew ?_ | refine Ext.drewN ?_ _ | refine Ext.alloc ?_ _ | refine Ext.trans ?_ (by assumption)))))
              have XWA := Lib.hid (XW9.out.trans XA.out)
              have OA := Lib.hid (O9.out.ext XA.out)
              have BA := Lib.hid (B9.out.ext XA.out)
              have hbs : w.heap.size ≤ (w9.alloc (.cells #[.int .i64 (k : Nat)] 3)).heap.size := XWA.out.size
              have hsz : (placesF ps).length ≤ 1000000 := by rw [placesF_len]; exact HPS.out
              have HBS := Lib.hid hbs
              have HSZ := Lib.hid hsz
              clear hbs hsz
              have SZ13 := Lib.hid (show ps.length + 1 ≤ B40 from by have := HPS.out; unfold B40; omega)
              go_wp2_with (first | (at_builtin; refine wp_appI rfl _ _ rfl w.heap.size u5 (placesF ps) rfl w9 3 (k : Nat) rfl OA.out rfl HSZ.out HBS.out ?_; intro v10 w10 o10 kx10 g10; have X10 := Lib.hid (show Ext w w10 from XWA.out.grown g10 (fun g e => (OA.out.row g e).1)); have O10 := Lib.hid o10; have B10 := Lib.hid (BA.out.grownT (by decide) (by decide) g10 (fun g e => OA.out.row g e)); have P10 := Lib.hid (HXW.out.ext X10.out); clear o10 kx10 g10) | (at_builtin; refine wp_app rfl _ _ rfl w10.heap.size (.slice none 0 0) [] rfl (OwnB.nil _ _) (some ⟨b, o + (k + 8), none⟩) N (c - (k + 8)) p rfl P10.out (by rw [hpl]; simp; unfold B47; omega) (Nat.le_refl _) ?_; intro v12 w12 o12 g12; have X12 := Lib.hid (show Ext w10 w12 from Ext.growBy (Ext.rfl_ w10) g12 (OwnB.nil _ _) (Nat.le_refl _)); obtain ⟨A12, n12, c12, rfl, hc12, r12, _⟩ := o12.formN; obtain rfl : n12 = N := (by rw [← r12.1]; simp [hpl]); have XB := Lib.hid (show Ext w12 (w12.alloc (.cells #[.slice A12 n12 c12] 29)) from (by with_reducible (repeat (first | exact Ext.rfl_ _ | assumption | refine Ext.drew ?_ | refine Ext.drewN ?_ _ | refine Ext.alloc ?_ _ | refine Ext.trans ?_ (by assumption))))); have B13 := Lib.hid ((B10.out.ext X12.out).ext XB.out); have O13 := Lib.hid ((O10.out.ext X12.out).ext XB.out); have C13 := Lib.hid (cnewB w12 (.slice A12 n12 c12) 29).1; have R13 := Lib.hid (r12.ext XB.out); have AP13 := Lib.hid ((Apt.own (base := w.heap.size) o12).ext XB.out); have X13 := Lib.hid ((X10.out.trans X12.out).trans XB.out); have HB13 := Lib.hid X13.out.size; clear o12 g12 r12) | (at_builtin; refine wp_appBC rfl _ _ rfl w.heap.size u6 ps rfl B13.out A12 n12 c12 w12.heap.size p rfl C13.out R13.out AP13.out hc12 SZ13.out HB13.out ?_; intro v14 w14 o14 g14; have X14 := Lib.hid (show Ext w w14 from X13.out.grown g14 (fun g e => (B13.out.row g e).1)); have O14 := Lib.hid (O13.out.kx (T := 29) (Kx.of_grown g14 (fun g e => (B13.out.row g e).2)) (by decide)); have B14 := Lib.hid o14; clear o14 g14))
              go_roundw
              case rel => exact ⟨k + (8 + n12), ps ++ [p], _, _, rfl, rfl, (by congr 1; omega), by omega, Lib.hid ⟨HG.out, (by rw [placesF_snoc, ← HKE.out]; exact O14.out), B14.out, X14.out⟩⟩
              case measure => simp [intOf]; omega
          · have hno : ¬ isF (x.drop k) = true := by rw [HFQ.out]; simpa using hq
            have HE := Lib.hid (HI.out.gf.end_ hno)
            have HR : Hid (OwnI wr w.heap.size u5 (placesF (frs x)) ∧ OwnBC wr w.heap.size u6 (frs x)) := Lib.hid (by rw [HE.out.1]; exact ⟨HI.out.ints, HI.out.rows⟩)
            have s1 : ((⟨(w4 C).toArray⟩ : ByteArray) == ⟨q.toArray⟩) = false := str_ne hq
            have s2 : ((⟨(w4 C).toArray⟩ : ByteArray) != ⟨q.toArray⟩) = true := by simp [bne, s1]
            have s3 : (w4 C == q) = false := by simpa using hq
            have s4 : ¬ ((w4 C).toArray = q.toArray) := fun e => hq (by simpa using e)
            clear hq hno hlk
            refine wp_region_held_drew (S := (fun w' => True)) (by kernel_rfl) (by (try dsimp only); try exact trivial) (fun hHeld => ?_)
            refine wpAnyH_take (i := 0) (oi := ({ dst := some 47, op := Go.Op.move (Go.Operand.tmp 10), type := 29, pos := "ref.go:46", after := #[], guard := none } : Go.Oper)) (v := ?v11) rfl (by kernel_rfl) (by kernel_rfl) (by kernel_rfl) (fun _ _ _ h => h) (Or.inl ⟨by rfl, ?hy11⟩) (by assumption) ?rest11
            case hy11 => (intro w hSw; (try dsimp only at hSw); go_simp; (try with_reducible rfl))
            (try simp only [Act.put, List.getElem_toArray, List.getElem_cons_zero, List.getElem_cons_succ, List.setIfInBounds_toArray, List.set_cons_zero, List.set_cons_succ])
            refine wpAnyH_take (i := 2) (oi := ({ dst := some 49, op := Go.Op.move (Go.Operand.tmp 0), type := 29, pos := "ref.go:46", after := #[], guard := none } : Go.Oper)) (v := ?v12) rfl (by kernel_rfl) (by kernel_rfl) (by kernel_rfl) (fun _ _ _ h => h) (Or.inl ⟨by rfl, ?hy12⟩) (by assumption) ?rest12
            case hy12 => (intro w hSw; (try dsimp only at hSw); go_simp; (try with_reducible rfl))
            (try simp only [Act.put, List.getElem_toArray, List.getElem_cons_zero, List.getElem_cons_succ, List.setIfInBounds_toArray, List.set_cons_zero, List.set_cons_succ])
            refine wpAnyH_take (i := 3) (oi := ({ dst := some 50, op := Go.Op.move (Go.Operand.tmp 7), type := 3, pos := "ref.go:46", after := #[], guard := none } : Go.Oper)) (v := ?v13) rfl (by kernel_rfl) (by kernel_rfl) (by kernel_rfl) (fun _ _ _ h => h) (Or.inl ⟨by rfl, ?hy13⟩) (by assumption) ?rest13
            case hy13 => (intro w hSw; (try dsimp only at hSw); go_simp; (try with_reducible rfl))
            (try simp only [Act.put, List.getElem_toArray, List.getElem_cons_zero, List.getElem_cons_succ, List.setIfInBounds_toArray, List.set_cons_zero, List.set_cons_succ])
            refine wpAnyH_take (i := 4) (oi := ({ dst := some 51, op := Go.Op.binOp Go.BinOp.add 3 (Go.Operand.tmp 50) (Go.Operand.const (Go.Value.int Go.IntKind.i64 4)) 3, type := 3, pos := "ref.go:46", after := #[{ on := 3, ground := Go.Ground.data }], guard := none } : Go.Oper)) (v := ?v14) rfl (by kernel_rfl) (by kernel_rfl) (by kernel_rfl) (fun _ _ _ h => h) (Or.inl ⟨by rfl, ?hy14⟩) (by assumption) ?rest14
            case hy14 => (intro w hSw; (try dsimp only at hSw); go_simp; (try with_reducible rfl))
            (try simp only [Act.put, List.getElem_toArray, List.getElem_cons_zero, List.getElem_cons_succ, List.setIfInBounds_toArray, List.set_cons_zero, List.set_cons_succ])
            refine wpAnyH_take (i := 5) (oi := ({ dst := some 52, op := Go.Op.move (Go.Operand.tmp 7), type := 3, pos := "ref.go:46", after := #[], guard := none } : Go.Oper)) (v := ?v15) rfl (by kernel_rfl) (by kernel_rfl) (by kernel_rfl) (fun _ _ _ h => h) (Or.inl ⟨by rfl, ?hy15⟩) (by assumption) ?rest15
            case hy15 => (intro w hSw; (try dsimp only at hSw); go_simp; (try with_reducible rfl))
            (try simp only [Act.put, List.getElem_toArray, List.getElem_cons_zero, List.getElem_cons_succ, List.setIfInBounds_toArray, List.set_cons_zero, List.set_cons_succ])
            refine wpAnyH_take (i := 6) (oi := ({ dst := some 53, op := Go.Op.binOp Go.BinOp.add 3 (Go.Operand.tmp 52) (Go.Operand.const (Go.Value.int Go.IntKind.i64 8)) 3, type := 3, pos := "ref.go:46", after := #[{ on := 5, ground := Go.Ground.data }], guard := none } : Go.Oper)) (v := ?v16) rfl (by kernel_rfl) (by kernel_rfl) (by kernel_rfl) (fun _ _ _ h => h) (Or.inl ⟨by rfl, ?hy16⟩) (by assumption) ?rest16
            case hy16 => (intro w hSw; (try dsimp only at hSw); go_simp; (try with_reducible rfl))
            (try simp only [Act.put, List.getElem_toArray, List.getElem_cons_zero, List.getElem_cons_succ, List.setIfInBounds_toArray, List.set_cons_zero, List.set_cons_succ])
            refine wpAnyH_take (i := 7) (oi := ({ dst := some 54, op := Go.Op.slice 29 (Go.Operand.tmp 49) (some (Go.Operand.tmp 51)) (some (Go.Operand.tmp 53)) none, type := 29, pos := "ref.go:46", after := #[{ on := 2, ground := Go.Ground.data }, { on := 4, ground := Go.Ground.data }, { on := 6, ground := Go.Ground.data }], guard := none } : Go.Oper)) (v := ?v17) rfl (by kernel_rfl) (by kernel_rfl) (by kernel_rfl) (fun _ _ _ h => h) (Or.inl ⟨by rfl, ?hy17⟩) (by assumption) ?rest17
            case hy17 => (intro w hSw; (try dsimp only at hSw); go_simp; (try with_reducible rfl))
            (try simp only [Act.put, List.getElem_toArray, List.getElem_cons_zero, List.getElem_cons_succ, List.setIfInBounds_toArray, List.set_cons_zero, List.set_cons_succ])
            refine wpAnyH_ready (rs := [1, 8]) (by kernel_rfl) (by simp) ?_
            refine AllReadyH.cons (o := ({ dst := some 48, op := Go.Op.convert 29 9 (Go.Operand.tmp 47), type := 9, pos := "ref.go:46", after := #[{ on := 0, ground := Go.Ground.data }], guard := none } : Go.Oper)) rfl (fun K hK => ?one18) ?more18
            case' one18 =>
              go_simp; rw [Rd.str (P := Try.prog) (x := w4 C) (?_ : Rd _ A8 4 (w4 C)) c8 29 5 9 Try.underlying29 Try.underlying5 Try.underlying9]; rotate_left; exact (R8.out.ext (by with_reducible (repeat (first | exact Ext.rfl_ _ | assumption | refine Ext.drew ?_ | refine Ext.drewN ?_ _ | refine Ext.alloc ?_ _ | refine Ext.trans ?_ (by assumption))))); simp only [Result.andThen]; go_simp
              refine hK.out _ _ (by (try dsimp only); try exact trivial) (fun hHeld => ?_)
              clear hK K
              (try simp only [Act.put, List.getElem_toArray, List.getElem_cons_zero, List.getElem_cons_succ, List.setIfInBounds_toArray, List.set_cons_zero, List.set_cons_succ])
              refine wpAnyH_ready (rs := [8]) (by kernel_rfl) (by simp) ?_
              refine AllReadyH.cons (o := ({ dst := some 55, op := Go.Op.convert 29 9 (Go.Operand.tmp 54), type := 9, pos := "ref.go:46", after := #[{ on := 7, ground := Go.Ground.data }], guard := none } : Go.Oper)) rfl (fun K hK => ?_) AllReadyH.nil
              go_simp; rw [Rd.str (P := Try.prog) (x := q) (?_ : Rd _ (some ⟨b, o + (k + 4), none⟩) 4 (q)) (c - (k + 4)) 29 5 9 Try.underlying29 Try.underlying5 Try.underlying9]; rotate_left; exact (HX4.out.ext (X8.out.trans (by with_reducible (repeat (first | exact Ext.rfl_ _ | assumption | refine Ext.drew ?_ | refine Ext.drewN ?_ _ | refine Ext.alloc ?_ _ | refine Ext.trans ?_ (by assumption)))))); simp only [Result.andThen]; go_simp
              refine hK.out _ _ (by (try dsimp only); try exact trivial) (fun hHeld => ?_)
              clear hK K
              (try simp only [Act.put, List.getElem_toArray, List.getElem_cons_zero, List.getElem_cons_succ, List.setIfInBounds_toArray, List.set_cons_zero, List.set_cons_succ])
              refine wpAnyH_take (i := 9) (oi := ({ dst := some 56, op := Go.Op.binOp Go.BinOp.neq 9 (Go.Operand.tmp 48) (Go.Operand.tmp 55) 9, type := 4, pos := "ref.go:46", after := #[{ on := 1, ground := Go.Ground.data }, { on := 8, ground := Go.Ground.data }], guard := none } : Go.Oper)) (v := ?v19) rfl (by kernel_rfl) (by kernel_rfl) (by kernel_rfl) (fun _ _ _ h => h) (Or.inl ⟨by rfl, ?hy19⟩) (by assumption) ?rest19
              case hy19 => (intro w hSw; (try dsimp only at hSw); go_simp; (try with_reducible rfl))
              (try simp only [Act.put, List.getElem_toArray, List.getElem_cons_zero, List.getElem_cons_succ, List.setIfInBounds_toArray, List.set_cons_zero, List.set_cons_succ])
              refine wpAnyH_done (by kernel_rfl) ?_ _
            case' more18 =>
              refine AllReadyH.cons (o := ({ dst := some 55, op := Go.Op.convert 29 9 (Go.Operand.tmp 54), type := 9, pos := "ref.go:46", after := #[{ on := 7, ground := Go.Ground.data }], guard := none } : Go.Oper)) rfl (fun K hK => ?_) AllReadyH.nil
              go_simp; rw [Rd.str (P := Try.prog) (x := q) (?_ : Rd _ (some ⟨b, o + (k + 4), none⟩) 4 (q)) (c - (k + 4)) 29 5 9 Try.underlying29 Try.underlying5 Try.underlying9]; rotate_left; exact (HX4.out.ext (X8.out.trans (by with_reducible (repeat (first | exact Ext.rfl_ _ | assumption | refine Ext.drew ?_ | refine Ext.drewN ?_ _ | refine Ext.alloc ?_ _ | refine Ext.trans ?_ (by assumption)))))); simp only [Result.andThen]; go_simp
              refine hK.out _ _ (by (try dsimp only); try exact trivial) (fun hHeld => ?_)
              clear hK K
              (try simp only [Act.put, List.getElem_toArray, List.getElem_cons_zero, List.getElem_cons_succ, List.setIfInBounds_toArray, List.set_cons_zero, List.set_cons_succ])
              refine wpAnyH_ready (rs := [1]) (by kernel_rfl) (by simp) ?_
              refine AllReadyH.cons (o := ({ dst := some 48, op := Go.Op.convert 29 9 (Go.Operand.tmp 47), type := 9, pos := "ref.go:46", after := #[{ on := 0, ground := Go.Ground.data }], guard := none } : Go.Oper)) rfl (fun K hK => ?_) AllReadyH.nil
              go_simp; rw [Rd.str (P := Try.prog) (x := w4 C) (?_ : Rd _ A8 4 (w4 C)) c8 29 5 9 Try.underlying29 Try.underlying5 Try.underlying9]; rotate_left; exact (R8.out.ext (by with_reducible (repeat (first | exact Ext.rfl_ _ | assumption | refine Ext.drew ?_ | refine Ext.drewN ?_ _ | refine Ext.alloc ?_ _ | refine Ext.trans ?_ (by assumption))))); simp only [Result.andThen]; go_simp
              refine hK.out _ _ (by (try dsimp only); try exact trivial) (fun hHeld => ?_)
              clear hK K
              (try simp only [Act.put, List.getElem_toArray, List.getElem_cons_zero, List.getElem_cons_succ, List.setIfInBounds_toArray, List.set_cons_zero, List.set_cons_succ])
              refine wpAnyH_take (i := 9) (oi := ({ dst := some 56, op := Go.Op.binOp Go.BinOp.neq 9 (Go.Operand.tmp 48) (Go.Operand.tmp 55) 9, type := 4, pos := "ref.go:46", after := #[{ on := 1, ground := Go.Ground.data }, { on := 8, ground := Go.Ground.data }], guard := none } : Go.Oper)) (v := ?v20) rfl (by kernel_rfl) (by kernel_rfl) (by kernel_rfl) (fun _ _ _ h => h) (Or.inl ⟨by rfl, ?hy20⟩) (by assumption) ?rest20
              case hy20 => (intro w hSw; (try dsimp only at hSw); go_simp; (try with_reducible rfl))
              (try simp only [Act.put, List.getElem_toArray, List.getElem_cons_zero, List.getElem_cons_succ, List.setIfInBounds_toArray, List.set_cons_zero, List.set_cons_succ])
              refine wpAnyH_done (by kernel_rfl) ?_ _
            all_goals
              go_wp2
              refine bodyPost_ret (v := .tuple #[u5, u6, .int .i64 (k : Nat)]) (by simp [results, Try.f45, go_sem]) rfl ?_
              exact ⟨u5, u6, by rw [← HE.out.2.2], OwnI.ext HR.out.1 (show Ext wr _ from X8.out.trans (by with_reducible (repeat (first | exact Ext.rfl_ _ | assumption | refine Ext.drew ?_ | refine Ext.drewN ?_ _ | refine Ext.alloc ?_ _ | refine Ext.trans ?_ (by assumption))))), OwnBC.ext HR.out.2 (show Ext wr _ from X8.out.trans (by with_reducible (repeat (first | exact Ext.rfl_ _ | assumption | refine Ext.drew ?_ | refine Ext.drewN ?_ _ | refine Ext.alloc ?_ _ | refine Ext.trans ?_ (by assumption))))), (HXE.out.trans (X8.out.trans (by with_reducible (repeat (first | exact Ext.rfl_ _ | assumption | refine Ext.drew ?_ | refine Ext.drewN ?_ _ | refine Ext.alloc ?_ _ | refine Ext.trans ?_ (by assumption))))))⟩
      · have hmf : mayF N = false := by simpa using hm
        have HM := Lib.hid hmf
        have hno : ¬ isF (x.drop k) = true := by
          rw [HF.out]
          unfold wholeF
          rw [hmf]
          simp
        have HE := Lib.hid (HI.out.gf.end_ hno)
        have HR : Hid (OwnI wr w.heap.size u5 (placesF (frs x)) ∧ OwnBC wr w.heap.size u6 (frs x)) := Lib.hid (by rw [HE.out.1]; exact ⟨HI.out.ints, HI.out.rows⟩)
        have HXE := Lib.hid HI.out.ext
        clear hno hlk hm hmf
        go_wp2_with (first | (go_at_call 75; refine (rlength_any b (o + k) (n - k) (c - k) (x.drop k) _ (HXT.out.ext (by with_reducible (repeat (first | exact Ext.rfl_ _ | assumption | refine Ext.drew ?_ | refine Ext.drewN ?_ _ | refine Ext.alloc ?_ _ | refine Ext.trans ?_ (by assumption))))) (by omega)).mono ?_; rintro e w2 ⟨rfl, hw2⟩; rw [HU.out]) | (go_at_call 76; refine (rmay4_any N _).mono ?_; rintro e w3 ⟨rfl, rfl⟩; rw [HM.out]))
        refine bodyPost_ret (v := .tuple #[u5, u6, .int .i64 (k : Nat)]) (by simp [results, Try.f45, go_sem]) rfl ?_
        exact ⟨u5, u6, by rw [← HE.out.2.2], OwnI.ext HR.out.1 (show Ext wr _ from (by with_reducible (repeat (first | exact Ext.rfl_ _ | assumption | refine Ext.drew ?_ | refine Ext.drewN ?_ _ | refine Ext.alloc ?_ _ | refine Ext.trans ?_ (by assumption))))), OwnBC.ext HR.out.2 (show Ext wr _ from (by with_reducible (repeat (first | exact Ext.rfl_ _ | assumption | refine Ext.drew ?_ | refine Ext.drewN ?_ _ | refine Ext.alloc ?_ _ | refine Ext.trans ?_ (by assumption))))), (show Ext w _ from HXE.out.trans (by with_reducible (repeat (first | exact Ext.rfl_ _ | assumption | refine Ext.drew ?_ | refine Ext.drewN ?_ _ | refine Ext.alloc ?_ _ | refine Ext.trans ?_ (by assumption)))))⟩
    · have hno : ¬ isF (x.drop k) = true := by
        intro h
        have := isF_len h
        omega
      have HE := Lib.hid (HI.out.gf.end_ hno)
      have HR : Hid (OwnI wr w.heap.size u5 (placesF (frs x)) ∧ OwnBC wr w.heap.size u6 (frs x)) := Lib.hid (by rw [HE.out.1]; exact ⟨HI.out.ints, HI.out.rows⟩)
      clear hno hlk
      have HXE := Lib.hid HI.out.ext
      go_wp2
      refine bodyPost_ret (v := .tuple #[u5, u6, .int .i64 (k : Nat)]) (by simp [results, Try.f45, go_sem]) rfl ?_
      exact ⟨u5, u6, by rw [← HE.out.2.2], OwnI.ext HR.out.1 (Ext.rfl_ _), OwnBC.ext HR.out.2 (Ext.rfl_ _), HXE.out⟩

set_option maxRecDepth 100000 in
set_option maxHeartbeats 2000000 in
theorem rodd4_any (A : Option Addr) (n c : Nat) (x : Bs) (w : World) (hx : Rd w A n x) (hnc : n ≤ c) (hn : n ≤ 1000000) :
    Calls Try.prog 47 #[.slice A n c] w fun e w' => e = .returned (.bool (oddF x)) ∧ Ext w w' := by
  have hle := frs_le x
  have hxl := hx.1
  have HX := Lib.hid hx
  obtain ⟨K, hK⟩ : ∃ K, K = endF (frs x) := ⟨_, rfl⟩
  have hrest : restF x = x.drop K := by rw [hK]; rfl
  have HR := Lib.hid hrest
  have hKn : K ≤ n := by omega
  go_enter Try.func47, Try.ntmps47
  go_wp2_with fail
  refine (rframes_any A n c x _ hx hnc hn).mono ?_
  rintro e w1 ⟨va, vl, rfl, -, -, hw1⟩
  rw [← hK]
  have hcc : (K : Int) ≤ (c : Int) := by omega
  have hnn : (K : Int) ≤ (n : Int) := by omega
  have hl : (x.drop K).length = n - K := by rw [List.length_drop, hxl]
  have HL := Lib.hid hl
  clear hx hK hrest hle hl
  by_cases h8 : n - K < 8
  · have hd : decide (n < 8 + K) = true := decide_eq_true (by omega)
    have hodd : oddF x = false := by
      unfold oddF
      rw [HR.out, HL.out, decide_eq_false (by omega), Bool.false_and]
    have HO := Lib.hid hodd
    clear hodd
    by_cases hck : c = K
    · go_wp2
      all_goals
        go_ret
        exact ⟨ret_bool HO.out.symm, (by with_reducible (repeat (first | exact Ext.rfl_ _ | assumption | refine Ext.drew ?_ | refine Ext.drewN ?_ _ | refine Ext.alloc ?_ _ | refine Ext.trans ?_ (by assumption))))⟩
    · go_wp2
      all_goals
        go_ret
        exact ⟨ret_bool HO.out.symm, (by with_reducible (repeat (first | exact Ext.rfl_ _ | assumption | refine Ext.drew ?_ | refine Ext.drewN ?_ _ | refine Ext.alloc ?_ _ | refine Ext.trans ?_ (by assumption))))⟩
  · have hck : ¬ c = K := by omega
    obtain ⟨b, o, rfl, _⟩ := HX.out.2 (by omega)
    have hd : ¬ (((n - K : Nat) : Int) < 8) := by omega
    have HXT := Lib.hid (HX.out.back K hKn)
    obtain ⟨N, hN⟩ : ∃ N, N = nF (x.drop K) := ⟨_, rfl⟩
    have hu : un4 ((x.drop K).take 4) = N := by rw [hN]; rfl
    have HU := Lib.hid hu
    have hN32 : N < 4294967296 := by rw [hN]; exact un4_lt _
    have hwr : IntKind.i64.wrap (8 + (N : Int)) = 8 + (N : Int) := by rw [IntKind.wrap_i64]; omega
    have hodd : oddF x = (!mayF N || decide (8 + N ≤ n - K)) := by
      unfold oddF
      rw [HR.out, HL.out, decide_eq_true (by omega), Bool.true_and, hN]
    have HO := Lib.hid hodd
    clear hN hu hodd
    by_cases hm : mayF N = true
    · have HM := Lib.hid hm
      have ho2 : Hid (oddF x = decide (8 + N ≤ n - K)) := Lib.hid (by rw [HO.out, hm]; simp)
      clear hm HO
      go_wp2_with (first | (go_at_call 75; refine (rlength_any b (o + K) (n - K) (c - K) (x.drop K) _ (HXT.out.ext (by with_reducible (repeat (first | exact Ext.rfl_ _ | assumption | refine Ext.drew ?_ | refine Ext.drewN ?_ _ | refine Ext.alloc ?_ _ | refine Ext.trans ?_ (by assumption))))) (by omega)).mono ?_; rintro e w2 ⟨rfl, hw2⟩; rw [HU.out]) | (go_at_call 76; refine (rmay4_any N _).mono ?_; rintro e w3 ⟨rfl, rfl⟩; rw [HM.out]))
      go_ret
      exact ⟨ret_bool (by rw [ho2.out]; exact decide_eq_decide.2 (by omega)), (by with_reducible (repeat (first | exact Ext.rfl_ _ | assumption | refine Ext.drew ?_ | refine Ext.drewN ?_ _ | refine Ext.alloc ?_ _ | refine Ext.trans ?_ (by assumption))))⟩
    · have hmf : mayF N = false := by simpa using hm
      have HM := Lib.hid hmf
      have ho2 : Hid (oddF x = true) := Lib.hid (by rw [HO.out, hmf]; simp)
      clear hm hmf HO
      go_wp2_with (first | (go_at_call 75; refine (rlength_any b (o + K) (n - K) (c - K) (x.drop K) _ (HXT.out.ext (by with_reducible (repeat (first | exact Ext.rfl_ _ | assumption | refine Ext.drew ?_ | refine Ext.drewN ?_ _ | refine Ext.alloc ?_ _ | refine Ext.trans ?_ (by assumption))))) (by omega)).mono ?_; rintro e w2 ⟨rfl, hw2⟩; rw [HU.out]) | (go_at_call 76; refine (rmay4_any N _).mono ?_; rintro e w3 ⟨rfl, rfl⟩; rw [HM.out]))
      go_ret
      exact ⟨ret_bool ho2.out.symm, (by with_reducible (repeat (first | exact Ext.rfl_ _ | assumption | refine Ext.drew ?_ | refine Ext.drewN ?_ _ | refine Ext.alloc ?_ _ | refine Ext.trans ?_ (by assumption))))⟩

end Go.Proofs.Ythdahmicjlplcaa
