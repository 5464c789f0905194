/- The whole of a version, plainly: the edit that makes it of the empty one; its bytes. Conditions: none. -/
/- Rows of byte slices of the call's own: append. Conditions: none. -/
/- The bytes of a table's place and of a list of them, as an edit's Put writes them. Conditions: each may be. -/
/- edit.Put of an edit that makes a version of the empty one. Conditions: the version may be. -/
/- edit.Whole. Conditions: the version reads. -/
/- edit.Put of an edit that makes a version of the empty one. Conditions: the version may be; at most 100 tables. -/
import Derived.Test.YteooaplimiifiaaGreatEdDoM
import Derived.Test.YteooaplimiifiaaGreatReadM
import Derived.Test.YteooaplimiifiaaGreatReadC
import Derived.Test.YteooaplimiifiaaGreatCrcM
import Derived.Test.YteooaplimiifiaaGreatOwnT
import Derived.Test.YteooaplimiifiaaGreatWireJ
import Derived.Test.YteooaplimiifiaaGreatKeyC
import Derived.Test.YteooaplimiifiaaGreatTabR
import Derived.Test.YteooaplimiifiaaGreatEdDelF
import Derived.RegionTactic
import Derived.Test.YteooaplimiifiaaGreatFrmE
import Derived.Test.YteooaplimiifiaaGreatIter
import Derived.Test.YteooaplimiifiaaGreatEdDo
namespace Go.Proofs.YteooaplimiifiaaGreat
set_option linter.unusedSimpArgs false
set_option linter.unusedVariables false
set_option maxRecDepth 100000

def wholeE (x : Ver) : Edt := ⟨[], x.ts, x.next, x.log, x.index, x.seq⟩
def ver0 : Ver := ⟨1, 0, 0, 0, []⟩
theorem may_ver0 : MayT ver0 := ⟨⟨rfl, rfl, rfl, rfl, by decide⟩, fun i t h => by simp [ver0] at h⟩
theorem numT_iff {n least : Int} : numT n least = true ↔ n ≥ least ∧ n ≤ 2147483647 := by unfold numT; exact decide_eq_true_iff
theorem do_whole {x z : Ver} {err : Int} (h : MayT x) (hd : DoR ver0 (wholeE x) z err) : z = x ∧ err = 0 := by
  have hn : (wholeE x).drop.Nodup := List.nodup_nil
  obtain ⟨h1, h2, h3, h4, _⟩ := h.1
  rw [numT_iff] at h1 h2 h3 h4
  have hok : DoOk ver0 (wholeE x) := ⟨by simp [keptT, ver0, wholeE], h1.1, h2.1, h3.1, h4.1⟩
  obtain ⟨S, hp, hs, hy, _⟩ := (hd.2 hn may_ver0).2 hok
  have hp' : S.Perm x.ts := by simpa [keptT, ver0, wholeE] using hp
  have hS : x.ts = S := (sorted_one (may_strict h) hs hp').symm
  rw [← hS] at hy
  exact hy h

def tabB (t : Tab) : Bs := numB t.num.toNat ++ (numB t.lvl.toNat ++ (bytB t.fst ++ (bytB t.lst ++ numB t.size.toNat)))
def addB (ts : List Tab) : Bs := numB ts.length ++ (ts.map tabB).flatten
def payE (x : Ver) : Bs := numB 0 ++ (addB x.ts ++ (numB x.next.toNat ++ (numB x.log.toNat ++ (numB x.index.toNat ++ numB x.seq.toNat))))

theorem place_parts {t : Tab} (h : placeT t = true) : (1 ≤ t.num ∧ t.num ≤ 2147483647) ∧ (0 ≤ t.lvl ∧ t.lvl < 4) ∧ (1 ≤ t.fst.length ∧ t.fst.length ≤ 32) ∧ (1 ≤ t.lst.length ∧ t.lst.length ≤ 32) ∧ (1 ≤ t.size ∧ t.size ≤ 2147483647) := by
  unfold placeT keyT at h
  simp only [Bool.and_eq_true, decide_eq_true_eq, numT_iff] at h
  omega
theorem may_place {x : Ver} (h : MayT x) {t : Tab} (ht : t ∈ x.ts) : placeT t = true := by
  obtain ⟨i, hi, rfl⟩ := List.mem_iff_getElem.1 ht
  exact ((h.2 i _ hi (List.getElem?_eq_getElem hi)).1).1
theorem tabB_len {t : Tab} (h : placeT t = true) : (tabB t).length ≤ 114 := by
  obtain ⟨_, _, h3, h4, _⟩ := place_parts h
  have a := numB_length t.num.toNat
  have b := numB_length t.lvl.toNat
  have c := numB_length t.fst.length
  have d := numB_length t.lst.length
  have e := numB_length t.size.toNat
  unfold tabB bytB
  simp only [List.length_append]
  omega
theorem tabs_len {ts : List Tab} (h : ∀ t ∈ ts, placeT t = true) : ((ts.map tabB).flatten).length ≤ 114 * ts.length := by
  induction ts with
  | nil => simp
  | cons t ts ih =>
    have h1 := tabB_len (h t List.mem_cons_self)
    have h2 := ih (fun u hu => h u (List.mem_cons_of_mem _ hu))
    simp only [List.map_cons, List.flatten_cons, List.length_append, List.length_cons]
    omega
theorem numB_posE (n : Nat) : 1 ≤ (numB n).length := by
  unfold numB numF
  split <;> simp
theorem pay_len {x : Ver} (h : MayT x) (hn : x.ts.length ≤ 100) : 1 ≤ (payE x).length ∧ (payE x).length ≤ 12000 := by
  have h1 := tabs_len (ts := x.ts) (fun t ht => may_place h ht)
  have a := numB_length x.next.toNat
  have b := numB_length x.log.toNat
  have c := numB_length x.index.toNat
  have d := numB_length x.seq.toNat
  have e := numB_length x.ts.length
  have f := numB_length 0
  have g := numB_posE 0
  unfold payE addB
  simp only [List.length_append]
  omega
theorem pay_may {x : Ver} (h : MayT x) (hn : x.ts.length ≤ 100) : mayF (payE x).length = true := by
  have := pay_len h hn
  unfold mayF
  exact decide_eq_true (by omega)
theorem frs_one {p : Bs} (h : mayF p.length = true) : frs (frmB p) = [p] ∧ atsF 0 (frs (frmB p)) = [(0, p)] ∧ (frmB p).length = 8 + p.length := by
  have h1 := frs_frm (r := []) h
  rw [List.append_nil] at h1
  have h2 : frs ([] : Bs) = [] := frs_no (by decide)
  rw [h2] at h1
  refine ⟨h1, ?_, frm_len p⟩
  rw [h1]
  rfl


open Go.RowKit

theorem Rd.grownT {w w' : World} {base : Nat} {A : Option Addr} {n : Nat} {x : Bs} {row : Option Nat} {t : TypeId} (h : Rd w A n x) (ha : Apt w base A n) (ht : t ≠ 5) (hg : w.grownBy w' row) (hr : ∀ g, row = some g → base ≤ g ∧ ∃ cs fr, w.heap[g]? = some (.cells cs t fr)) : Rd w' A n x :=
  ⟨h.1, fun hn => by
    obtain ⟨b, o, e, hc⟩ := h.2 hn
    refine ⟨b, o, e, fun j hj => ?_⟩
    have hbl := hg.block b (cell_lt (hc j hj)) (fun e2 => by
      obtain ⟨h1, cs, fr, h2⟩ := hr b e2.symm
      rcases ha hn _ e with h3 | ⟨cs', fr', h3⟩
      · simp at h3; omega
      · rw [h2] at h3; simp at h3; exact ht h3.2.1)
    have := hc j hj
    unfold World.cell? at *
    rw [hbl]; exact this⟩
theorem Apt.grownT {w w' : World} {base : Nat} {A : Option Addr} {n : Nat} {row : Option Nat} {t : TypeId} (ha : Apt w base A n) (ht : t ≠ 5) (hg : w.grownBy w' row) (hr : ∀ g, row = some g → base ≤ g ∧ ∃ cs fr, w.heap[g]? = some (.cells cs t fr)) : Apt w' base A n := fun hn a e => by
  rcases ha hn a e with h | ⟨cs, fr, h⟩
  · exact .inl h
  · refine .inr ⟨cs, fr, (hg.block _ (Array.getElem?_eq_some_iff.1 h).1 (fun e2 => ?_)).trans h⟩
    obtain ⟨_, cs', fr', h2⟩ := hr _ e2.symm
    rw [h] at h2; simp at h2; exact ht h2.2.1.symm

structure Sl where
  A : Option Addr
  n : Nat
  c : Nat
def slV (h : Sl) : Value := .slice h.A h.n h.c

/-- The value owns, from block 'base' on, a row of byte slices that read so. -/
def OwnBB (w : World) (base : Nat) (v : Value) (xs : List Bs) : Prop :=
  ∃ hs : List Sl, hs.length = xs.length ∧ w.ownsRow base 35 1 v xs.length (hs.map slV) ∧ ∀ k (h1 : k < hs.length) (h2 : k < xs.length), Rd w hs[k].A hs[k].n xs[k] ∧ Apt w base hs[k].A hs[k].n

theorem OwnBB.lt {w : World} {base : Nat} {v : Value} {xs : List Bs} (h : OwnBB w base v xs) : ∀ k, v.ownBlock = some k → base ≤ k ∧ k < w.heap.size := by
  obtain ⟨hs, hl, ho, hr⟩ := h
  exact ho.lt
theorem Ext.growBB {a w w' : World} {base : Nat} {v : Value} {xs : List Bs} (h : Ext a w) (hg : w.grownBy w' v.ownBlock) (ho : OwnBB w base v xs) (hb : a.heap.size ≤ base) : Ext a w' :=
  h.grown hg (fun k hk => Nat.le_trans hb (ho.lt k hk).1)
theorem OwnBB.ext {w w' : World} {base : Nat} {v : Value} {xs : List Bs} (h : OwnBB w base v xs) (hx : Ext w w') : OwnBB w' base v xs := by
  obtain ⟨hs, hl, ho, hr⟩ := h
  refine ⟨hs, hl, ?_, fun k h1 h2 => ⟨(hr k h1 h2).1.ext hx, (hr k h1 h2).2.ext hx⟩⟩
  refine World.ownsRow.kept (row := none) ho ⟨(Ext.below hx).os, (Ext.below hx).tape, (Ext.below hx).output, (Ext.below hx).size, fun k hk _ => (Ext.below hx).block k hk⟩ ?_
  rcases ho.2 with ⟨rfl, _⟩ | ⟨g', cap, cur, rfl, _, hg', _⟩
  · exact .inl rfl
  · exact .inr (by simp [Value.ownBlock])
/-- A row of one, just laid. -/
theorem OwnBB.one {w : World} {base n c : Nat} {A : Option Addr} {x : Bs} (hr : Rd w A n x) (ha : Apt w base A n) (hb : base ≤ w.heap.size) :
    OwnBB (w.alloc (.cells #[.slice A n c] 35)) base (.slice (some ⟨w.heap.size, 0, none⟩) 1 1) [x] := by
  refine ⟨[⟨A, n, c⟩], rfl, ?_, fun k h1 h2 => ?_⟩
  · exact World.ownsRow_lit w #[.slice A n c] 1 hb (by decide) rfl
  · obtain rfl : k = 0 := by simp at h1; exact h1
    exact ⟨hr.ext (Ext.alloc (Ext.rfl_ _) _), ha.ext (Ext.alloc (Ext.rfl_ _) _)⟩
theorem OwnBB.form {w : World} {base : Nat} {v : Value} {xs : List Bs} (h : OwnBB w base v xs) : ∃ A n c, v = .slice A n c ∧ n ≤ c ∧ RdBB w A n xs := by
  obtain ⟨hs, hl, ho, hr⟩ := h
  rcases ho.2 with ⟨rfl, h0⟩ | ⟨g, cap, cur, rfl, hb, hg, hle, _⟩
  · obtain rfl : xs = [] := List.eq_nil_of_length_eq_zero h0
    exact ⟨none, 0, 0, rfl, Nat.le_refl _, rfl, fun hn => absurd hn (by simp)⟩
  · refine ⟨some ⟨g, 0, none⟩, _, cap, rfl, hle, rfl, fun hn => ⟨g, 0, rfl, fun j hj => ?_⟩⟩
    have hj' : j < hs.length := by omega
    have hcell := World.ownsRow.cellAt ho j (by omega)
    refine ⟨hs[j].A, hs[j].n, hs[j].c, ?_, (hr j hj' hj).1⟩
    rw [Nat.zero_add, hcell]
    simp [List.getElem?_eq_getElem hj', slV]

theorem Tryz.infoBB : (Tryz.prog.info? 35).map (fun i => (i.zero, i.size, i.bytes)) = some (some (.slice none 0 0), 1, 24) := by kernel_rfl

/-- 'append(row, x)' of one byte slice that was just laid in a block of its own. -/
theorem run_appBB (w : World) (ty : TypeId) (base : Nat) (v : Value) (xs : List Bs) (hown : OwnBB w base v xs) (A : Option Addr) (n c g : Nat) (y : Bs) (hc : w.cell? ⟨g, 0, none⟩ = some (.slice A n c)) (hr : Rd w A n y) (ha : Apt w base A n) (hsz : xs.length + 1 ≤ B40) (hbase : base ≤ w.heap.size) :
    ∃ v' w', (Builtin.append_ #[85, 85] ty #[v, .slice (some ⟨g, 0, none⟩) 1 1]).run Tryz.prog w = .ok v' w' ∧ OwnBB w' base v' (xs ++ [y]) ∧ w.grownBy w' v.ownBlock := by
  obtain ⟨i0, hi, hz0, hz1, hz2⟩ := info_parts Tryz.infoBB
  obtain ⟨hs, hl, ho, hrd⟩ := hown
  have hrow : ∀ g, v.ownBlock = some g → base ≤ g ∧ ∃ cs fr, w.heap[g]? = some (.cells cs 35 fr) := by
    rcases ho.2 with ⟨rfl, _⟩ | ⟨g', cap, cur, rfl, hb, hg', _⟩
    · intro g hg; cases hg
    · intro g hg
      simp [Value.ownBlock] at hg
      subst hg
      exact ⟨hb, _, _, hg'⟩
  unfold B40 at hsz
  obtain ⟨v', w', hrun, h1, h2, h3⟩ := run_append_own (P := Tryz.prog) w base 85 ty 35 i0 _ 1 24 Tryz.underlying85 hi hz0 hz1 hz2 rfl (by decide) v xs.length (hs.map slV) ho ⟨g, 0, none⟩ 1 1 [.slice A n c] rfl
    (by intro j u hj; match j with
        | 0 => simp at hj; subst hj; exact hc
        | j + 1 => simp at hj)
    (by intro u hu; simp at hu; subst hu; rfl) (by unfold maxLen; omega) (by omega) hbase
  refine ⟨v', w', hrun, ⟨hs ++ [⟨A, n, c⟩], by simp [hl], by rw [List.map_append, List.length_append]; exact h1, fun k k1 k2 => ?_⟩, h2⟩
  by_cases hk : k < hs.length
  · rw [List.getElem_append_left hk, List.getElem_append_left (by omega)]
    have := hrd k hk (by omega)
    exact ⟨this.1.grownT this.2 (by decide) h2 hrow, this.2.grownT (by decide) h2 hrow⟩
  · have : k = hs.length := by simp at k1; omega
    subst this
    rw [List.getElem_append_right (Nat.le_refl _), List.getElem_append_right (by omega)]
    have e : hs.length - xs.length = 0 := by omega
    simp only [Nat.sub_self, e, List.getElem_cons_zero]
    exact ⟨hr.grownT ha (by decide) h2 hrow, ha.grownT (by decide) h2 hrow⟩

theorem wp_appBB {ops : Array Oper} {rest : List Oper} {o : Oper} {a : Act} {w : World} {Q : Exit → Act → World → Prop} (hgd : o.guard = none) (s x : Operand)
    (ho : o.op = .call { callee := .builtin .append, args := #[s, x], argTypes := #[85, 85] })
    (base : Nat) (v : Value) (xs : List Bs) (hs : a.eval s = v) (hown : OwnBB w base v xs) (A : Option Addr) (n c g : Nat) (y : Bs) (hx : a.eval x = .slice (some ⟨g, 0, none⟩) 1 1) (hc : w.cell? ⟨g, 0, none⟩ = some (.slice A n c)) (hr : Rd w A n y) (ha : Apt w base A n)
    (hsz : xs.length + 1 ≤ B40) (hbase : base ≤ w.heap.size)
    (h : ∀ v' w', OwnBB w' base v' (xs ++ [y]) → w.grownBy w' v.ownBlock → wpList Tryz.prog ops Q rest (a.put o.dst v') w') : wpList Tryz.prog ops Q (o :: rest) a w := by
  refine wpList_plain hgd fun K hK => ?_
  obtain ⟨v', w', hrun, h1, h2⟩ := run_appBB w o.type base v xs hown A n c g y hc hr ha hsz hbase
  unfold Oper.wp
  simp [execOp, ho, resolve, invoke, builtin, hs, hx, hrun, Result.andThen]
  exact hK _ _ (h v' w' h1 h2)


open Go.RowKit

theorem num_any (z : Int) (w : World) (h0 : 0 ≤ z) (h1 : z ≤ 2147483647) :
    Calls Tryz.prog 29 #[.int .i64 z] w fun e w' => ∃ v', e = .returned v' ∧ OwnB w' w.heap.size v' (numB z.toNat) ∧ Ext w w' := by
  have hq : IntKind.u64.wrap z = z := by rw [IntKind.wrap_u64]; omega
  go_enter Tryz.func29, Tryz.ntmps29
  go_wp2_with fail
  refine (number_z z _ h0 h1).mono ?_
  rintro e w1 ⟨v1, rfl, o1, hw1⟩
  go_wp2
  go_ret
  exact ⟨_, rfl, o1, hw1⟩

theorem RdBB.new5 {w : World} {t : TypeId} {A0 A1 A2 A3 A4 : Option Addr} {n0 n1 n2 n3 n4 c0 c1 c2 c3 c4 : Nat} {x0 x1 x2 x3 x4 : Bs} (h0 : Rd w A0 n0 x0) (h1 : Rd w A1 n1 x1) (h2 : Rd w A2 n2 x2) (h3 : Rd w A3 n3 x3) (h4 : Rd w A4 n4 x4) :
    RdBB (w.alloc (.cells #[.slice A0 n0 c0, .slice A1 n1 c1, .slice A2 n2 c2, .slice A3 n3 c3, .slice A4 n4 c4] t)) (some ⟨w.heap.size, 0, none⟩) 5 [x0, x1, x2, x3, x4] := by
  have hb := heap_alloc_new w (.cells #[.slice A0 n0 c0, .slice A1 n1 c1, .slice A2 n2 c2, .slice A3 n3 c3, .slice A4 n4 c4] t)
  have ha := Ext.alloc (Ext.rfl_ w) (.cells #[.slice A0 n0 c0, .slice A1 n1 c1, .slice A2 n2 c2, .slice A3 n3 c3, .slice A4 n4 c4] t)
  refine ⟨rfl, fun _ => ⟨w.heap.size, 0, rfl, fun j hj => ?_⟩⟩
  match j, hj with
  | 0, _ => exact ⟨A0, n0, c0, by unfold World.cell?; simp only [hb]; rfl, h0.ext ha⟩
  | 1, _ => exact ⟨A1, n1, c1, by unfold World.cell?; simp only [hb]; rfl, h1.ext ha⟩
  | 2, _ => exact ⟨A2, n2, c2, by unfold World.cell?; simp only [hb]; rfl, h2.ext ha⟩
  | 3, _ => exact ⟨A3, n3, c3, by unfold World.cell?; simp only [hb]; rfl, h3.ext ha⟩
  | 4, _ => exact ⟨A4, n4, c4, by unfold World.cell?; simp only [hb]; rfl, h4.ext ha⟩
theorem RdBB.new6 {w : World} {t : TypeId} {A0 A1 A2 A3 A4 A5 : Option Addr} {n0 n1 n2 n3 n4 n5 c0 c1 c2 c3 c4 c5 : Nat} {x0 x1 x2 x3 x4 x5 : Bs} (h0 : Rd w A0 n0 x0) (h1 : Rd w A1 n1 x1) (h2 : Rd w A2 n2 x2) (h3 : Rd w A3 n3 x3) (h4 : Rd w A4 n4 x4) (h5 : Rd w A5 n5 x5) :
    RdBB (w.alloc (.cells #[.slice A0 n0 c0, .slice A1 n1 c1, .slice A2 n2 c2, .slice A3 n3 c3, .slice A4 n4 c4, .slice A5 n5 c5] t)) (some ⟨w.heap.size, 0, none⟩) 6 [x0, x1, x2, x3, x4, x5] := by
  have hb := heap_alloc_new w (.cells #[.slice A0 n0 c0, .slice A1 n1 c1, .slice A2 n2 c2, .slice A3 n3 c3, .slice A4 n4 c4, .slice A5 n5 c5] t)
  have ha := Ext.alloc (Ext.rfl_ w) (.cells #[.slice A0 n0 c0, .slice A1 n1 c1, .slice A2 n2 c2, .slice A3 n3 c3, .slice A4 n4 c4, .slice A5 n5 c5] t)
  refine ⟨rfl, fun _ => ⟨w.heap.size, 0, rfl, fun j hj => ?_⟩⟩
  match j, hj with
  | 0, _ => exact ⟨A0, n0, c0, by unfold World.cell?; simp only [hb]; rfl, h0.ext ha⟩
  | 1, _ => exact ⟨A1, n1, c1, by unfold World.cell?; simp only [hb]; rfl, h1.ext ha⟩
  | 2, _ => exact ⟨A2, n2, c2, by unfold World.cell?; simp only [hb]; rfl, h2.ext ha⟩
  | 3, _ => exact ⟨A3, n3, c3, by unfold World.cell?; simp only [hb]; rfl, h3.ext ha⟩
  | 4, _ => exact ⟨A4, n4, c4, by unfold World.cell?; simp only [hb]; rfl, h4.ext ha⟩
  | 5, _ => exact ⟨A5, n5, c5, by unfold World.cell?; simp only [hb]; rfl, h5.ext ha⟩

theorem own_rd {w : World} {base : Nat} {A : Option Addr} {n c : Nat} {x : Bs} (h : OwnB w base (.slice A n c) x) : Rd w A n x := by
  obtain ⟨A', c', e, _, r, _⟩ := h.form
  injection e with e1 e2 e3
  rw [e1, e2]
  exact r

set_option maxRecDepth 100000 in
set_option maxHeartbeats 4000000 in
theorem put3_any (v : Value) (t : Tab) (w : World) (hv : RdT w v t) (hp : placeT t = true) :
    Calls Tryz.prog 31 #[v] w fun e w' => ∃ v', e = .returned v' ∧ OwnB w' w.heap.size v' (tabB t) ∧ Ext w w' := by
  obtain ⟨⟨p1, p2⟩, ⟨p3, p4⟩, ⟨p5, p6⟩, ⟨p7, p8⟩, p9, pa⟩ := place_parts hp
  obtain ⟨A, n, c, A', n', c', rfl, hx1, hx2, _⟩ := hv
  have e1 := hx1.1
  have e2 := hx2.1
  have hn : n ≤ B40 := by unfold B40; omega
  have hn' : n' ≤ B40 := by unfold B40; omega
  have hlen := tabB_len hp
  have hfl : [numB t.num.toNat, numB t.lvl.toNat, bytB t.fst, bytB t.lst, numB t.size.toNat].flatten = tabB t := by unfold tabB; simp
  have HFL := Lib.hid hfl
  have HB := Lib.hid (blk1 w (.cells #[.int .i64 t.num, .int .i64 t.lvl, .slice A n c, .slice A' n' c', .int .i64 t.size] 42))
  clear e1 e2 hp hfl p5 p6 p7 p8
  go_enter Tryz.func31, Tryz.ntmps31
  go_wp2
  refine wp_region_held_drew (S := (fun W => W.cell? ⟨w.heap.size, 0, none⟩ = some (.int .i64 t.num) ∧ W.cell? ⟨w.heap.size, 1, none⟩ = some (.int .i64 t.lvl) ∧ W.cell? ⟨w.heap.size, 2, none⟩ = some (.slice A n c) ∧ W.cell? ⟨w.heap.size, 3, none⟩ = some (.slice A' n' c') ∧ W.cell? ⟨w.heap.size, 4, none⟩ = some (.int .i64 t.size))) (by kernel_rfl) (by (try dsimp only); exact (fun h => ⟨h.1, h.2.1, h.2.2.1, h.2.2.2.1, h.2.2.2.2.1⟩) (box5 HB.out (by with_reducible (repeat (first | exact Ext.rfl_ _ | assumption | refine Ext.drew ?_ | refine Ext.drewN ?_ _ | refine Ext.alloc ?_ _ | refine Ext.trans ?_ (by assumption)))))) (fun hHeld => ?_)
  refine wpAnyH_take (i := 0) (oi := ({ dst := some 3, op := .fieldAddr 42 (.tmp 1) 0, type := 0, pos := "edit.go:108", after := #[], guard := none } : Go.Oper)) (v := ?v1) rfl (by kernel_rfl) (by kernel_rfl) (by kernel_rfl) (fun _ _ _ h => h) (Or.inl ⟨by rfl, ?hy1⟩) (by assumption) ?rest1
  case hy1 => (intro w hSw; (try dsimp only at hSw); go_simp; (try with_reducible rfl))
  (try simp only [Act.put, List.getElem_toArray, List.getElem_cons_zero, List.getElem_cons_succ, List.setIfInBounds_toArray, List.set_cons_zero, List.set_cons_succ])
  refine wpAnyH_take (i := 1) (oi := ({ dst := some 4, op := .load 2 (.tmp 3), type := 2, pos := "edit.go:108", after := #[⟨0, .data⟩], guard := none } : Go.Oper)) (v := ?v2) rfl (by kernel_rfl) (by kernel_rfl) (by kernel_rfl) (fun _ _ _ h => h) (Or.inl ⟨by rfl, ?hy2⟩) (by assumption) ?rest2
  case hy2 => (intro w hSw; (try dsimp only at hSw); go_simp; (try with_reducible rfl))
  (try simp only [Act.put, List.getElem_toArray, List.getElem_cons_zero, List.getElem_cons_succ, List.setIfInBounds_toArray, List.set_cons_zero, List.set_cons_succ])
  refine wpAnyH_take (i := 3) (oi := ({ dst := some 6, op := .fieldAddr 42 (.tmp 1) 1, type := 0, pos := "edit.go:108", after := #[], guard := none } : Go.Oper)) (v := ?v3) rfl (by kernel_rfl) (by kernel_rfl) (by kernel_rfl) (fun _ _ _ h => h) (Or.inl ⟨by rfl, ?hy3⟩) (by assumption) ?rest3
  case hy3 => (intro w hSw; (try dsimp only at hSw); go_simp; (try with_reducible rfl))
  (try simp only [Act.put, List.getElem_toArray, List.getElem_cons_zero, List.getElem_cons_succ, List.setIfInBounds_toArray, List.set_cons_zero, List.set_cons_succ])
  refine wpAnyH_take (i := 4) (oi := ({ dst := some 7, op := .load 3 (.tmp 6), type := 3, pos := "edit.go:108", after := #[⟨3, .data⟩], guard := none } : Go.Oper)) (v := ?v4) rfl (by kernel_rfl) (by kernel_rfl) (by kernel_rfl) (fun _ _ _ h => h) (Or.inl ⟨by rfl, ?hy4⟩) (by assumption) ?rest4
  case hy4 => (intro w hSw; (try dsimp only at hSw); go_simp; (try with_reducible rfl))
  (try simp only [Act.put, List.getElem_toArray, List.getElem_cons_zero, List.getElem_cons_succ, List.setIfInBounds_toArray, List.set_cons_zero, List.set_cons_succ])
  refine wpAnyH_take (i := 6) (oi := ({ dst := some 9, op := .fieldAddr 42 (.tmp 1) 2, type := 0, pos := "edit.go:108", after := #[], guard := none } : Go.Oper)) (v := ?v5) rfl (by kernel_rfl) (by kernel_rfl) (by kernel_rfl) (fun _ _ _ h => h) (Or.inl ⟨by rfl, ?hy5⟩) (by assumption) ?rest5
  case hy5 => (intro w hSw; (try dsimp only at hSw); go_simp; (try with_reducible rfl))
  (try simp only [Act.put, List.getElem_toArray, List.getElem_cons_zero, List.getElem_cons_succ, List.setIfInBounds_toArray, List.set_cons_zero, List.set_cons_succ])
  refine wpAnyH_take (i := 7) (oi := ({ dst := some 10, op := .load 35 (.tmp 9), type := 35, pos := "edit.go:108", after := #[⟨6, .data⟩], guard := none } : Go.Oper)) (v := ?v6) rfl (by kernel_rfl) (by kernel_rfl) (by kernel_rfl) (fun _ _ _ h => h) (Or.inl ⟨by rfl, ?hy6⟩) (by assumption) ?rest6
  case hy6 => (intro w hSw; (try dsimp only at hSw); go_simp; (try with_reducible rfl))
  (try simp only [Act.put, List.getElem_toArray, List.getElem_cons_zero, List.getElem_cons_succ, List.setIfInBounds_toArray, List.set_cons_zero, List.set_cons_succ])
  refine wpAnyH_take (i := 9) (oi := ({ dst := some 12, op := .fieldAddr 42 (.tmp 1) 3, type := 0, pos := "edit.go:108", after := #[], guard := none } : Go.Oper)) (v := ?v7) rfl (by kernel_rfl) (by kernel_rfl) (by kernel_rfl) (fun _ _ _ h => h) (Or.inl ⟨by rfl, ?hy7⟩) (by assumption) ?rest7
  case hy7 => (intro w hSw; (try dsimp only at hSw); go_simp; (try with_reducible rfl))
  (try simp only [Act.put, List.getElem_toArray, List.getElem_cons_zero, List.getElem_cons_succ, List.setIfInBounds_toArray, List.set_cons_zero, List.set_cons_succ])
  refine wpAnyH_take (i := 10) (oi := ({ dst := some 13, op := .load 35 (.tmp 12), type := 35, pos := "edit.go:108", after := #[⟨9, .data⟩], guard := none } : Go.Oper)) (v := ?v8) rfl (by kernel_rfl) (by kernel_rfl) (by kernel_rfl) (fun _ _ _ h => h) (Or.inl ⟨by rfl, ?hy8⟩) (by assumption) ?rest8
  case hy8 => (intro w hSw; (try dsimp only at hSw); go_simp; (try with_reducible rfl))
  (try simp only [Act.put, List.getElem_toArray, List.getElem_cons_zero, List.getElem_cons_succ, List.setIfInBounds_toArray, List.set_cons_zero, List.set_cons_succ])
  refine wpAnyH_take (i := 12) (oi := ({ dst := some 15, op := .fieldAddr 42 (.tmp 1) 4, type := 0, pos := "edit.go:108", after := #[], guard := none } : Go.Oper)) (v := ?v9) rfl (by kernel_rfl) (by kernel_rfl) (by kernel_rfl) (fun _ _ _ h => h) (Or.inl ⟨by rfl, ?hy9⟩) (by assumption) ?rest9
  case hy9 => (intro w hSw; (try dsimp only at hSw); go_simp; (try with_reducible rfl))
  (try simp only [Act.put, List.getElem_toArray, List.getElem_cons_zero, List.getElem_cons_succ, List.setIfInBounds_toArray, List.set_cons_zero, List.set_cons_succ])
  refine wpAnyH_take (i := 13) (oi := ({ dst := some 16, op := .load 2 (.tmp 15), type := 2, pos := "edit.go:108", after := #[⟨12, .data⟩], guard := none } : Go.Oper)) (v := ?v10) rfl (by kernel_rfl) (by kernel_rfl) (by kernel_rfl) (fun _ _ _ h => h) (Or.inl ⟨by rfl, ?hy10⟩) (by assumption) ?rest10
  case hy10 => (intro w hSw; (try dsimp only at hSw); go_simp; (try with_reducible rfl))
  (try simp only [Act.put, List.getElem_toArray, List.getElem_cons_zero, List.getElem_cons_succ, List.setIfInBounds_toArray, List.set_cons_zero, List.set_cons_succ])
  refine wpAnyH_ready (rs := [2]) (by kernel_rfl) (by simp) ?_
  refine AllReadyH.cons (o := ({ dst := some 5, op := .call { callee := .value (.func 29), args := #[.tmp 4], argTypes := #[2] }, type := 35, pos := "edit.go:108", after := #[⟨1, .data⟩], guard := none } : Go.Oper)) rfl (fun K hK => ?_) AllReadyH.nil
  go_simp
  (with_reducible refine (num_any t.num _ (by omega) p2).mono ?_); rintro e w1 ⟨v1, rfl, o1, hw1⟩; have O1 := Lib.hid o1; obtain ⟨A1, n1, c1, rfl, _⟩ := o1.formN
  (try (go_wp2_with fail))
  refine hK.out _ _ (by (try dsimp only); exact (fun h => ⟨h.1, h.2.1, h.2.2.1, h.2.2.2.1, h.2.2.2.2.1⟩) (box5 HB.out (by with_reducible (repeat (first | exact Ext.rfl_ _ | assumption | refine Ext.drew ?_ | refine Ext.drewN ?_ _ | refine Ext.alloc ?_ _ | refine Ext.trans ?_ (by assumption)))))) (fun hHeld => ?_)
  clear hK K
  (try simp only [Act.put, List.getElem_toArray, List.getElem_cons_zero, List.getElem_cons_succ, List.setIfInBounds_toArray, List.set_cons_zero, List.set_cons_succ])
  refine wpAnyH_ready (rs := [5]) (by kernel_rfl) (by simp) ?_
  refine AllReadyH.cons (o := ({ dst := some 8, op := .call { callee := .value (.func 29), args := #[.tmp 7], argTypes := #[2] }, type := 35, pos := "edit.go:108", after := #[⟨4, .data⟩, ⟨2, .chain⟩], guard := none } : Go.Oper)) rfl (fun K hK => ?_) AllReadyH.nil
  go_simp
  (with_reducible refine (num_any t.lvl _ p3 (by omega)).mono ?_); rintro e w2 ⟨v2, rfl, o2, hw2⟩; have O2 := Lib.hid o2; obtain ⟨A2, n2, c2, rfl, _⟩ := o2.formN
  (try (go_wp2_with fail))
  refine hK.out _ _ (by (try dsimp only); exact (fun h => ⟨h.1, h.2.1, h.2.2.1, h.2.2.2.1, h.2.2.2.2.1⟩) (box5 HB.out (by with_reducible (repeat (first | exact Ext.rfl_ _ | assumption | refine Ext.drew ?_ | refine Ext.drewN ?_ _ | refine Ext.alloc ?_ _ | refine Ext.trans ?_ (by assumption)))))) (fun hHeld => ?_)
  clear hK K
  (try simp only [Act.put, List.getElem_toArray, List.getElem_cons_zero, List.getElem_cons_succ, List.setIfInBounds_toArray, List.set_cons_zero, List.set_cons_succ])
  refine wpAnyH_ready (rs := [8]) (by kernel_rfl) (by simp) ?_
  refine AllReadyH.cons (o := ({ dst := some 11, op := .call { callee := .value (.func 33), args := #[.tmp 10], argTypes := #[35] }, type := 35, pos := "edit.go:108", after := #[⟨7, .data⟩, ⟨5, .chain⟩], guard := none } : Go.Oper)) rfl (fun K hK => ?_) AllReadyH.nil
  go_simp
  (with_reducible refine (wbytes_any A n c t.fst _ (hx1.ext (by with_reducible (repeat (first | exact Ext.rfl_ _ | assumption | refine Ext.drew ?_ | refine Ext.drewN ?_ _ | refine Ext.alloc ?_ _ | refine Ext.trans ?_ (by assumption))))) hn).mono ?_); rintro e w3 ⟨v3, rfl, o3, hw3⟩; have O3 := Lib.hid o3; obtain ⟨A3, n3, c3, rfl, _⟩ := o3.formN
  (try (go_wp2_with fail))
  refine hK.out _ _ (by (try dsimp only); exact (fun h => ⟨h.1, h.2.1, h.2.2.1, h.2.2.2.1, h.2.2.2.2.1⟩) (box5 HB.out (by with_reducible (repeat (first | exact Ext.rfl_ _ | assumption | refine Ext.drew ?_ | refine Ext.drewN ?_ _ | refine Ext.alloc ?_ _ | refine Ext.trans ?_ (by assumption)))))) (fun hHeld => ?_)
  clear hK K
  (try simp only [Act.put, List.getElem_toArray, List.getElem_cons_zero, List.getElem_cons_succ, List.setIfInBounds_toArray, List.set_cons_zero, List.set_cons_succ])
  refine wpAnyH_ready (rs := [11]) (by kernel_rfl) (by simp) ?_
  refine AllReadyH.cons (o := ({ dst := some 14, op := .call { callee := .value (.func 33), args := #[.tmp 13], argTypes := #[35] }, type := 35, pos := "edit.go:108", after := #[⟨10, .data⟩, ⟨8, .chain⟩], guard := none } : Go.Oper)) rfl (fun K hK => ?_) AllReadyH.nil
  go_simp
  (with_reducible refine (wbytes_any A' n' c' t.lst _ (hx2.ext (by with_reducible (repeat (first | exact Ext.rfl_ _ | assumption | refine Ext.drew ?_ | refine Ext.drewN ?_ _ | refine Ext.alloc ?_ _ | refine Ext.trans ?_ (by assumption))))) hn').mono ?_); rintro e w4 ⟨v4, rfl, o4, hw4⟩; have O4 := Lib.hid o4; obtain ⟨A4, n4, c4, rfl, _⟩ := o4.formN
  (try (go_wp2_with fail))
  refine hK.out _ _ (by (try dsimp only); exact (fun h => ⟨h.1, h.2.1, h.2.2.1, h.2.2.2.1, h.2.2.2.2.1⟩) (box5 HB.out (by with_reducible (repeat (first | exact Ext.rfl_ _ | assumption | refine Ext.drew ?_ | refine Ext.drewN ?_ _ | refine Ext.alloc ?_ _ | refine Ext.trans ?_ (by assumption)))))) (fun hHeld => ?_)
  clear hK K
  (try simp only [Act.put, List.getElem_toArray, List.getElem_cons_zero, List.getElem_cons_succ, List.setIfInBounds_toArray, List.set_cons_zero, List.set_cons_succ])
  refine wpAnyH_ready (rs := [14]) (by kernel_rfl) (by simp) ?_
  refine AllReadyH.cons (o := ({ dst := some 17, op := .call { callee := .value (.func 29), args := #[.tmp 16], argTypes := #[2] }, type := 35, pos := "edit.go:108", after := #[⟨13, .data⟩, ⟨11, .chain⟩], guard := none } : Go.Oper)) rfl (fun K hK => ?_) AllReadyH.nil
  go_simp
  (with_reducible refine (num_any t.size _ (by omega) pa).mono ?_); rintro e w5 ⟨v5, rfl, o5, hw5⟩; have O5 := Lib.hid o5; obtain ⟨A5, n5, c5, rfl, _⟩ := o5.formN
  (try (go_wp2_with fail))
  refine hK.out _ _ (by (try dsimp only); exact (fun h => ⟨h.1, h.2.1, h.2.2.1, h.2.2.2.1, h.2.2.2.2.1⟩) (box5 HB.out (by with_reducible (repeat (first | exact Ext.rfl_ _ | assumption | refine Ext.drew ?_ | refine Ext.drewN ?_ _ | refine Ext.alloc ?_ _ | refine Ext.trans ?_ (by assumption)))))) (fun hHeld => ?_)
  clear hK K
  (try simp only [Act.put, List.getElem_toArray, List.getElem_cons_zero, List.getElem_cons_succ, List.setIfInBounds_toArray, List.set_cons_zero, List.set_cons_succ])
  refine wpAnyH_ready (rs := [15]) (by kernel_rfl) (by simp) ?_
  refine AllReadyH.cons (o := ({ dst := some 18, op := .buildSlice 85 5 #[(0, .tmp 5), (1, .tmp 8), (2, .tmp 11), (3, .tmp 14), (4, .tmp 17)], type := 85, pos := "edit.go:108", after := #[⟨2, .data⟩, ⟨5, .data⟩, ⟨8, .data⟩, ⟨11, .data⟩, ⟨14, .data⟩], guard := none } : Go.Oper)) rfl (fun K hK => ?_) AllReadyH.nil
  go_simp
  refine hK.out _ _ (by (try dsimp only); exact (fun h => ⟨h.1, h.2.1, h.2.2.1, h.2.2.2.1, h.2.2.2.2.1⟩) (box5 HB.out (by with_reducible (repeat (first | exact Ext.rfl_ _ | assumption | refine Ext.drew ?_ | refine Ext.drewN ?_ _ | refine Ext.alloc ?_ _ | refine Ext.trans ?_ (by assumption)))))) (fun hHeld => ?_)
  clear hK K
  (try simp only [Act.put, List.getElem_toArray, List.getElem_cons_zero, List.getElem_cons_succ, List.setIfInBounds_toArray, List.set_cons_zero, List.set_cons_succ])
  refine wpAnyH_ready (rs := [16]) (by kernel_rfl) (by simp) ?_
  refine AllReadyH.cons (o := ({ dst := some 19, op := .call { callee := .value (.func 32), args := #[.tmp 18], argTypes := #[85] }, type := 35, pos := "edit.go:108", after := #[⟨15, .data⟩, ⟨14, .chain⟩], guard := none } : Go.Oper)) rfl (fun K hK => ?_) AllReadyH.nil
  go_simp
  refine (join_any _ 5 5 [numB t.num.toNat, numB t.lvl.toNat, bytB t.fst, bytB t.lst, numB t.size.toNat] _ (RdBB.new5 ((own_rd O1.out).ext (by with_reducible (repeat (first | exact Ext.rfl_ _ | assumption | refine Ext.drew ?_ | refine Ext.drewN ?_ _ | refine Ext.alloc ?_ _ | refine Ext.trans ?_ (by assumption))))) ((own_rd O2.out).ext (by with_reducible (repeat (first | exact Ext.rfl_ _ | assumption | refine Ext.drew ?_ | refine Ext.drewN ?_ _ | refine Ext.alloc ?_ _ | refine Ext.trans ?_ (by assumption))))) ((own_rd O3.out).ext (by with_reducible (repeat (first | exact Ext.rfl_ _ | assumption | refine Ext.drew ?_ | refine Ext.drewN ?_ _ | refine Ext.alloc ?_ _ | refine Ext.trans ?_ (by assumption))))) ((own_rd O4.out).ext (by with_reducible (repeat (first | exact Ext.rfl_ _ | assumption | refine Ext.drew ?_ | refine Ext.drewN ?_ _ | refine Ext.alloc ?_ _ | refine Ext.trans ?_ (by assumption))))) ((own_rd O5.out).ext (by with_reducible (repeat (first | exact Ext.rfl_ _ | assumption | refine Ext.drew ?_ | refine Ext.drewN ?_ _ | refine Ext.alloc ?_ _ | refine Ext.trans ?_ (by assumption)))))) (by decide) (by rw [HFL.out]; unfold B47; omega)).mono ?_; rintro e w6 ⟨v6, rfl, o6, hw6⟩
  (try (go_wp2_with fail))
  refine hK.out _ _ (by (try dsimp only); exact (fun h => ⟨h.1, h.2.1, h.2.2.1, h.2.2.2.1, h.2.2.2.2.1⟩) (box5 HB.out (by with_reducible (repeat (first | exact Ext.rfl_ _ | assumption | refine Ext.drew ?_ | refine Ext.drewN ?_ _ | refine Ext.alloc ?_ _ | refine Ext.trans ?_ (by assumption)))))) (fun hHeld => ?_)
  clear hK K
  (try simp only [Act.put, List.getElem_toArray, List.getElem_cons_zero, List.getElem_cons_succ, List.setIfInBounds_toArray, List.set_cons_zero, List.set_cons_succ])
  refine wpAnyH_take (i := 17) (oi := ({ dst := some 2, op := .assign (.tmp 19), type := 35, pos := "edit.go:108", after := #[⟨16, .data⟩, ⟨16, .chain⟩, ⟨0, .phase⟩, ⟨1, .phase⟩, ⟨2, .phase⟩, ⟨3, .phase⟩, ⟨4, .phase⟩, ⟨5, .phase⟩, ⟨6, .phase⟩, ⟨7, .phase⟩, ⟨8, .phase⟩, ⟨9, .phase⟩, ⟨10, .phase⟩, ⟨11, .phase⟩, ⟨12, .phase⟩, ⟨13, .phase⟩, ⟨14, .phase⟩, ⟨15, .phase⟩, ⟨16, .phase⟩], guard := none } : Go.Oper)) (v := ?v11) rfl (by kernel_rfl) (by kernel_rfl) (by kernel_rfl) (fun _ _ _ h => h) (Or.inl ⟨by rfl, ?hy11⟩) (by assumption) ?rest11
  case hy11 => (intro w hSw; (try dsimp only at hSw); go_simp; (try with_reducible rfl))
  (try simp only [Act.put, List.getElem_toArray, List.getElem_cons_zero, List.getElem_cons_succ, List.setIfInBounds_toArray, List.set_cons_zero, List.set_cons_succ])
  refine wpAnyH_done (by kernel_rfl) ?_ _
  all_goals

    go_wp2
    go_ret
    rw [HFL.out] at o6
    exact ⟨_, rfl, o6.mono (Ext.size (w := w) (by with_reducible (repeat (first | exact Ext.rfl_ _ | assumption | refine Ext.drew ?_ | refine Ext.drewN ?_ _ | refine Ext.alloc ?_ _ | refine Ext.trans ?_ (by assumption))))), (by with_reducible (repeat (first | exact Ext.rfl_ _ | assumption | refine Ext.drew ?_ | refine Ext.drewN ?_ _ | refine Ext.alloc ?_ _ | refine Ext.trans ?_ (by assumption))))⟩


open Go.RowKit

set_option maxRecDepth 100000 in
set_option maxHeartbeats 2000000 in
theorem putT_any (A : Option Addr) (n c : Nat) (ts : List Tab) (w : World) (hl : RdLT w A n ts) (hn : n ≤ 4096) (hm : ∀ t ∈ ts, placeT t = true) :
    Calls Tryz.prog 30 #[.slice A n c, .func (.func 31) #[] #[]] w fun e w' => ∃ v', e = .returned (.tuple #[v', .int .i64 0]) ∧ OwnB w' w.heap.size v' (addB ts) ∧ Ext w w' := by
  have HL := Lib.hid hl
  have HM := Lib.hid hm
  have hnil := fun (w : World) (f : Fn) (x y : Array Value) => run_eql_func_nil (P := Tryz.prog) w 62 f x y Tryz.underlying62
  clear hl hm
  go_enter Tryz.func30, Tryz.ntmps30
  go_wp2_with fail
  refine (number_any n _ (by omega)).mono ?_
  rintro e w1 ⟨v1, rfl, o1, hw1⟩
  have HO1 := Lib.hid o1
  obtain ⟨A1, n1, c1, rfl, l1, r1, i1⟩ := o1.formN
  have hbb : OwnBB (w1.alloc (.cells #[.slice A1 n1 c1] 35)) w.heap.size (.slice (some ⟨w1.heap.size, 0, none⟩) 1 1) [numB n] := OwnBB.one r1 (Apt.own HO1.out) hw1.size
  have HBB := Lib.hid hbb
  clear hbb r1 o1 i1
  go_wp2
  go_loopw [6, 17] (fun v i wr => ∃ k : Nat, i = .int .i64 k ∧ k ≤ n ∧ Hid (OwnBB wr w.heap.size v (numB n :: (ts.take k).map tabB)) ∧ Ext w wr) (fun _ i _ => n - (intOf i).toNat)
  case atStart => exact ⟨0, rfl, Nat.zero_le _, HBB, (by with_reducible (repeat (first | exact Ext.rfl_ _ | assumption | refine Ext.drew ?_ | refine Ext.drewN ?_ _ | refine Ext.alloc ?_ _ | refine Ext.trans ?_ (by assumption))))⟩
  case round =>
    obtain ⟨k, rfl, hk, ho, hE⟩ := hrel
    by_cases c1 : (k : Int) < (n : Int)
    · obtain ⟨b, o, A2, n2, c2, B2, m2, d2, x, rfl, hx, ⟨q0, q1, q2, q3, q4⟩, hr⟩ := HL.out.at_ k (by omega)
      have hke : k < ts.length := by rw [HL.out.1]; omega
      have hxe : ts[k] = x := by rw [List.getElem?_eq_getElem hke] at hx; exact Option.some.inj hx
      have g0 := hE.keeps _ _ _ q0
      have g1 := hE.keeps _ _ _ q1
      have g2 := hE.keeps _ _ _ q2
      have g3 := hE.keeps _ _ _ q3
      have g4 := hE.keeps _ _ _ q4
      have HR := Lib.hid (hr.ext hE)
      have HXE := Lib.hid hxe
      have HPL := Lib.hid (HM.out x (by rw [← hxe]; exact List.getElem_mem _))
      have hlen : (numB n :: (ts.take k).map tabB).length + 1 ≤ B40 := by simp; unfold B40; omega
      have HLEN := Lib.hid hlen
      clear q0 q1 q2 q3 q4 hr hx hxe hlen
      go_wp2_with fail
      refine (put3_any _ x _ HR.out HPL.out).mono ?_
      rintro e w3 ⟨v3, rfl, o3, hw3⟩
      have HO3 := Lib.hid o3
      obtain ⟨A3, n3, c3, rfl, l3, r3, i3⟩ := o3.formN
      have hc3 := cnew w3 (.slice A3 n3 c3) 35
      have HC3 := Lib.hid hc3.1
      have HR3 := Lib.hid r3
      have HOB := Lib.hid (ho.out.ext hw3)
      have hE3 : Ext w w3 := hE.trans hw3
      have hbs : w.heap.size ≤ (w3.alloc (.cells #[.slice A3 n3 c3] 35)).heap.size := (hE3.alloc _).size
      have HBS := Lib.hid hbs
      clear o3 r3 i3 hc3 hbs ho hw3
      go_wp2_with (at_builtin; refine wp_appBB rfl _ _ rfl w.heap.size _ _ rfl (HOB.out.ext (Ext.alloc (Ext.rfl_ _) _)) A3 n3 c3 w3.heap.size (tabB x) rfl HC3.out (HR3.out.ext (Ext.alloc (Ext.rfl_ _) _)) ((Apt.own HO3.out).ext (Ext.alloc (Ext.rfl_ _) _)) HLEN.out HBS.out ?_; intro v5 w5 o5 g5; have x5 : Ext w w5 := Ext.growBB (hE3.alloc _) g5 (HOB.out.ext (Ext.alloc (Ext.rfl_ _) _)) (Nat.le_refl _); clear g5)
      go_roundw
      case rel =>
        refine ⟨k + 1, by go_num, by omega, Lib.hid ?_, x5⟩
        rw [List.take_succ_eq_append_getElem hke, HXE.out, List.map_append]
        simpa using o5
      case measure => simp [intOf]; omega
    · have e0 : ts.take k = ts := List.take_of_length_le (by rw [HL.out.1]; omega)
      have ho2 := ho.out
      rw [e0] at ho2
      obtain ⟨A5, n5, c5, rfl, _, r5⟩ := ho2.form
      have hfl : (numB n :: ts.map tabB).flatten.length ≤ B47 := by
        rw [List.flatten_cons, List.length_append]
        have h1 := tabs_len (ts := ts) HM.out
        have h2 := numB_length n
        have h3 := HL.out.1
        unfold B47
        omega
      have hn5 : n5 ≤ B40 := by rw [← r5.1]; simp [HL.out.1]; unfold B40; omega
      have HFL := Lib.hid hfl
      have HR5 := Lib.hid r5
      clear ho2 ho e0 r5 hfl
      go_wp2_with fail
      refine (join_any A5 n5 c5 (numB n :: ts.map tabB) _ HR5.out hn5 HFL.out).mono ?_
      rintro e w6 ⟨v6, rfl, o6, hw6⟩
      have hs6 := hE.size
      go_wp2
      go_ret2
      refine ⟨v6, rfl, ?_, hE.trans hw6⟩
      have := o6.mono (base' := w.heap.size) hs6
      unfold addB
      rw [HL.out.1]
      simpa using this

set_option maxRecDepth 100000 in
set_option maxHeartbeats 2000000 in
theorem putI_nil (c : Nat) (w : World) :
    Calls Tryz.prog 28 #[.slice none 0 c, .func (.func 29) #[] #[]] w fun e w' => ∃ v', e = .returned (.tuple #[v', .int .i64 0]) ∧ OwnB w' w.heap.size v' (numB 0) ∧ Ext w w' := by
  have hnil := fun (w : World) (f : Fn) (x y : Array Value) => run_eql_func_nil (P := Tryz.prog) w 58 f x y Tryz.underlying58
  go_enter Tryz.func28, Tryz.ntmps28
  go_wp2_with fail
  refine (number_any 0 _ (by omega)).mono ?_
  rintro e w1 ⟨v1, rfl, o1, hw1⟩
  have HO1 := Lib.hid o1
  obtain ⟨A1, n1, c1, rfl, l1, r1, i1⟩ := o1.formN
  have hbb : OwnBB (w1.alloc (.cells #[.slice A1 n1 c1] 35)) w.heap.size (.slice (some ⟨w1.heap.size, 0, none⟩) 1 1) [numB 0] := OwnBB.one r1 (Apt.own HO1.out) hw1.size
  obtain ⟨A5, n5, c5, hv5, _, r5⟩ := hbb.form
  cases hv5
  have HR5 := Lib.hid r5
  have X1 := Lib.hid hw1
  have hl0 := numB_length 0
  clear hbb r1 o1 i1 r5 hw1
  go_wp2
  go_loopw [6, 17] (fun v i wr => v = .slice (some ⟨w1.heap.size, 0, none⟩) 1 1 ∧ i = .int .i64 0 ∧ wr = w1.alloc (.cells #[.slice A1 n1 c1] 35)) (fun _ _ _ => 0)
  case atStart => exact ⟨rfl, rfl, rfl⟩
  case round =>
    obtain ⟨rfl, rfl, rfl⟩ := hrel
    go_wp2_with fail
    refine (join_any (some ⟨w1.heap.size, 0, none⟩) 1 1 [numB 0] _ HR5.out (by decide) (by simp; unfold B47; omega)).mono ?_
    rintro e w6 ⟨v6, rfl, o6, hw6⟩
    go_wp2
    go_ret2
    refine ⟨v6, rfl, ?_, X1.out.trans ((Ext.alloc (Ext.rfl_ _) _).trans hw6)⟩
    have := o6.mono (base' := w.heap.size) (Ext.size ((X1.out.alloc _)))
    simpa using this

theorem idxI_nil (c : Nat) (f : Value) (w : World) : Calls Tryz.prog 50 #[.slice none 0 c, f] w fun e w' => e = .returned (.int .i64 (-1)) ∧ w' = w := by
  go_enter Tryz.func50, Tryz.ntmps50
  go_wp2
  go_loopw [8] (fun i wr => i = .int .i64 0 ∧ wr = w) (fun _ _ => 0)
  case atStart => exact ⟨rfl, rfl⟩
  case round =>
    obtain ⟨rfl, rfl⟩ := hrel
    go_wp2
    go_ret
    exact ⟨rfl, rfl⟩
theorem contI_nil (c : Nat) (f : Value) (w : World) : Calls Tryz.prog 23 #[.slice none 0 c, f] w fun e w' => e = .returned (.bool false) ∧ w' = w := by
  go_enter Tryz.func23, Tryz.ntmps23
  go_wp2_with fail
  refine (idxI_nil c f _).mono ?_
  rintro e w1 ⟨rfl, rfl⟩
  go_wp2
  go_ret
  exact ⟨rfl, rfl⟩

theorem put2_says (Inv : World → Prop) : SaysT 26 #[] (fun t => !placeT t) Inv := by
  intro v t w _ hv
  have HV := Lib.hid hv
  obtain ⟨A, n, c, A', n', c', rfl, _⟩ := hv
  have HB := Lib.hid (blk1 w (.cells #[.int .i64 t.num, .int .i64 t.lvl, .slice A n c, .slice A' n' c', .int .i64 t.size] 42))
  show Calls Tryz.prog 26 #[_] w _
  go_enter Tryz.func26, Tryz.ntmps26
  go_wp2_with fail
  refine (place_any _ t _ (HV.out.ext (by with_reducible (repeat (first | exact Ext.rfl_ _ | assumption | refine Ext.drew ?_ | refine Ext.drewN ?_ _ | refine Ext.alloc ?_ _ | refine Ext.trans ?_ (by assumption)))))).mono ?_
  rintro e w1 ⟨rfl, hw1⟩
  go_wp2
  go_ret
  exact ⟨rfl, (by with_reducible (repeat (first | exact Ext.rfl_ _ | assumption | refine Ext.drew ?_ | refine Ext.drewN ?_ _ | refine Ext.alloc ?_ _ | refine Ext.trans ?_ (by assumption))))⟩

theorem contT_any (A : Option Addr) (n c : Nat) (ts : List Tab) (w : World) (hl : RdLT w A n ts) (hm : ∀ t ∈ ts, placeT t = true) :
    Calls Tryz.prog 25 #[.slice A n c, .func (.func 26) #[] #[]] w fun e w' => e = .returned (.bool false) ∧ Ext w w' := by
  have hx : idxQR (fun t => !placeT t) ts n = -1 := by
    unfold idxQR
    rw [idxQ_none (fun u hu => by rw [hm u hu]; rfl), hl.1]
    simp
  have eg : ∀ args w, (callFunc 26 args).run Tryz.prog w = .ok (.enter 26 args) w := enters_of Tryz.func26 (by kernel_rfl) rfl
  have HC := Lib.hid (idxq_any A n c ts 26 #[] _ (fun _ => True) w hl eg (put2_says _) (fun _ _ _ _ => trivial) trivial)
  have HX := Lib.hid hx
  clear hx hl hm
  go_enter Tryz.func25, Tryz.ntmps25
  go_wp2_with fail
  refine HC.out.mono ?_
  rintro e w1 ⟨rfl, hw1⟩
  rw [HX.out]
  go_wp2
  go_ret
  exact ⟨rfl, hw1⟩


open Go.RowKit

theorem set6 {w : World} {g : Nat} {a0 a1 a2 a3 a4 a5 : Value} {t : TypeId} (h : w.heap[g]? = some (.cells #[a0, a1, a2, a3, a4, a5] t (0, 0))) (b0 b1 b2 b3 b4 b5 : Value) :
    ((((((w.setCell ⟨g, 0, none⟩ b0).setCell ⟨g, 1, none⟩ b1).setCell ⟨g, 2, none⟩ b2).setCell ⟨g, 3, none⟩ b3).setCell ⟨g, 4, none⟩ b4).setCell ⟨g, 5, none⟩ b5).heap[g]? = some (.cells #[b0, b1, b2, b3, b4, b5] t (0, 0)) :=
  heap_set _ _ _ _ _ _ (heap_set _ _ _ _ _ _ (heap_set _ _ _ _ _ _ (heap_set _ _ _ _ _ _ (heap_set _ _ _ _ _ _ (heap_set _ _ _ _ _ _ h)))))
theorem extSet6 {a w : World} (h : Ext a w) {g : Nat} (hg : a.heap.size ≤ g) (b0 b1 b2 b3 b4 b5 : Value) : Ext a ((((((w.setCell ⟨g, 0, none⟩ b0).setCell ⟨g, 1, none⟩ b1).setCell ⟨g, 2, none⟩ b2).setCell ⟨g, 3, none⟩ b3).setCell ⟨g, 4, none⟩ b4).setCell ⟨g, 5, none⟩ b5) :=
  (((((h.setCell hg _).setCell hg _).setCell hg _).setCell hg _).setCell hg _).setCell hg _
theorem box6f {w' : World} {g : Nat} {t : TypeId} {a b c d e f : Value} (h : w'.heap[g]? = some (.cells #[a, b, c, d, e, f] t (0, 0))) :
    (w'.cell? ⟨g, 0, none⟩ = some a ∧ w'.cell? ⟨g, 1, none⟩ = some b ∧ w'.cell? ⟨g, 2, none⟩ = some c ∧ w'.cell? ⟨g, 3, none⟩ = some d ∧ w'.cell? ⟨g, 4, none⟩ = some e ∧ w'.cell? ⟨g, 5, none⟩ = some f) ∧
    (w'.frozen? ⟨g, 0, none⟩ = false ∧ w'.frozen? ⟨g, 1, none⟩ = false ∧ w'.frozen? ⟨g, 2, none⟩ = false ∧ w'.frozen? ⟨g, 3, none⟩ = false ∧ w'.frozen? ⟨g, 4, none⟩ = false ∧ w'.frozen? ⟨g, 5, none⟩ = false) := by
  simp [World.cell?, World.frozen?, h]

theorem grown6 (w : World) (g : Nat) (b0 b1 b2 b3 b4 b5 : Value) : w.grownBy ((((((w.setCell ⟨g, 0, none⟩ b0).setCell ⟨g, 1, none⟩ b1).setCell ⟨g, 2, none⟩ b2).setCell ⟨g, 3, none⟩ b3).setCell ⟨g, 4, none⟩ b4).setCell ⟨g, 5, none⟩ b5) (some g) :=
  (((((grow_set _ _ _ _).trans_ (grow_set _ _ _ _)).trans_ (grow_set _ _ _ _)).trans_ (grow_set _ _ _ _)).trans_ (grow_set _ _ _ _)).trans_ (grow_set _ _ _ _)
theorem noU86 : ∀ i : Nat, ∀ z : Int, (#[Value.slice none 0 0, .slice none 0 0, .int .i64 0, .int .i64 0, .int .i64 0, .int .i64 0] : Array Value)[i]? ≠ some (.int .u8 z) := by
  intro i z
  match i with
  | 0 => simp
  | 1 => simp
  | 2 => simp
  | 3 => simp
  | 4 => simp
  | 5 => simp
  | n + 6 => simp

/-- The value of an edit that only adds. -/
def edV (B : Option Addr) (n d : Nat) (x : Ver) : Value := .agg #[.slice none 0 0, .slice B n d, .int .i64 x.next, .int .i64 x.log, .int .i64 x.index, .int .i64 x.seq]

set_option maxRecDepth 100000 in
set_option maxHeartbeats 8000000 in
theorem ewhole_any (v : Value) (x : Ver) (w : World) (hv : RdV w v x) (hsz : x.ts.length ≤ 100000) :
    Calls Tryz.prog 5 #[v] w fun r w' => ∃ u err, r = .returned (.tuple #[u, .int .i64 err]) ∧ (¬ MayT x → err = 2 ∧ u = edV none 0 0 nilV) ∧
      (MayT x → err = 0 ∧ ∃ B d, u = edV B x.ts.length d x ∧ RdLT w' B x.ts.length x.ts ∧ x.ts.length ≤ d) ∧ Ext w w' := by
  have HV := Lib.hid hv
  obtain ⟨A, n, c, rfl, hl, hnc⟩ := hv
  obtain rfl : x.ts.length = n := hl.1
  have HL := Lib.hid hl
  have hb := two_new w (.cells #[.int .i64 x.next, .int .i64 x.log, .int .i64 x.index, .int .i64 x.seq, .slice A x.ts.length c] 24) (.cells #[.slice none 0 0, .slice none 0 0, .int .i64 0, .int .i64 0, .int .i64 0, .int .i64 0] 28)
  have H1 := Lib.hid hb.1
  have H2 := Lib.hid hb.2
  clear hb hl
  go_enter Tryz.func5, Tryz.ntmps5
  go_wp2_with fail
  refine (emay_any _ x _ (HV.out.ext (by with_reducible (repeat (first | exact Ext.rfl_ _ | assumption | refine Ext.drew ?_ | refine Ext.drewN ?_ _ | refine Ext.alloc ?_ _ | refine Ext.trans ?_ (by assumption))))) (by omega)).mono ?_
  rintro e w1 ⟨rfl, hw1⟩
  have X1 := Lib.hid hw1
  have B1 : Hid (w1.heap[w.heap.size]? = _) := ((Ext.below hw1).block _ (Array.getElem?_eq_some_iff.1 H1.out).1).trans H1.out
  have B2 : Hid (w1.heap[w.heap.size + 1]? = _) := ((Ext.below hw1).block _ (Array.getElem?_eq_some_iff.1 H2.out).1).trans H2.out
  have z1 : w.heap.size + 2 ≤ w1.heap.size := by have := hw1.size; simp at this; omega
  clear hw1
  by_cases hm : MayT x
  · rw [← mayT_yes hm]
    have HM := Lib.hid hm
    clear hm
    have XA : Ext (w.alloc (.cells #[.int .i64 x.next, .int .i64 x.log, .int .i64 x.index, .int .i64 x.seq, .slice A x.ts.length c] 24)) w1 := (Ext.alloc (Ext.rfl_ _) _).trans X1.out
    have HSS := Lib.hid (show ∀ W, Ext (w.alloc (.cells #[.int .i64 x.next, .int .i64 x.log, .int .i64 x.index, .int .i64 x.seq, .slice A x.ts.length c] 24)) W → (W.cell? ⟨w.heap.size, 0, none⟩ = some (.int .i64 x.next) ∧ W.cell? ⟨w.heap.size, 1, none⟩ = some (.int .i64 x.log) ∧ W.cell? ⟨w.heap.size, 2, none⟩ = some (.int .i64 x.index) ∧ W.cell? ⟨w.heap.size, 3, none⟩ = some (.int .i64 x.seq) ∧ W.cell? ⟨w.heap.size, 4, none⟩ = some (.slice A x.ts.length c)) from fun W hW => by
      obtain ⟨h0, h1, h2, h3, h4, _⟩ := box5 (heap_alloc_new w _) hW
      exact ⟨h0, h1, h2, h3, h4⟩)
    have X0 := Lib.hid ((Ext.alloc (Ext.rfl_ w) _).trans XA)
    go_wp2
    refine wp_region_held_drew (S := (fun W => W.cell? ⟨w.heap.size, 0, none⟩ = some (.int .i64 x.next) ∧ W.cell? ⟨w.heap.size, 1, none⟩ = some (.int .i64 x.log) ∧ W.cell? ⟨w.heap.size, 2, none⟩ = some (.int .i64 x.index) ∧ W.cell? ⟨w.heap.size, 3, none⟩ = some (.int .i64 x.seq) ∧ W.cell? ⟨w.heap.size, 4, none⟩ = some (.slice A x.ts.length c))) (by kernel_rfl) (by (try dsimp only); exact HSS.out _ (by with_reducible (repeat (first | exact Ext.rfl_ _ | assumption | refine Ext.drew ?_ | refine Ext.drewN ?_ _ | refine Ext.alloc ?_ _ | refine Ext.setCell ?_ (by first | (simp; done) | (simp; omega)) _ | refine Ext.trans ?_ (by assumption))))) (fun hHeld => ?_)
    refine wpAnyH_take (i := 0) (oi := ({ dst := some 8, op := .fieldAddr 24 (.tmp 1) 4, type := 0, pos := "edit.go:184", after := #[], guard := none } : Go.Oper)) (v := ?v12) rfl (by kernel_rfl) (by kernel_rfl) (by kernel_rfl) (fun _ _ _ h => h) (Or.inl ⟨by rfl, ?hy12⟩) (by assumption) ?rest12
    case hy12 => (intro w hSw; (try dsimp only at hSw); go_simp; (try with_reducible rfl))
    (try simp only [Act.put, List.getElem_toArray, List.getElem_cons_zero, List.getElem_cons_succ, List.setIfInBounds_toArray, List.set_cons_zero, List.set_cons_succ])
    refine wpAnyH_take (i := 1) (oi := ({ dst := some 9, op := .load 22 (.tmp 8), type := 22, pos := "edit.go:184", after := #[⟨0, .data⟩], guard := none } : Go.Oper)) (v := ?v13) rfl (by kernel_rfl) (by kernel_rfl) (by kernel_rfl) (fun _ _ _ h => h) (Or.inl ⟨by rfl, ?hy13⟩) (by assumption) ?rest13
    case hy13 => (intro w hSw; (try dsimp only at hSw); go_simp; (try with_reducible rfl))
    (try simp only [Act.put, List.getElem_toArray, List.getElem_cons_zero, List.getElem_cons_succ, List.setIfInBounds_toArray, List.set_cons_zero, List.set_cons_succ])
    refine wpAnyH_take (i := 3) (oi := ({ dst := some 11, op := .fieldAddr 24 (.tmp 1) 0, type := 0, pos := "edit.go:184", after := #[], guard := none } : Go.Oper)) (v := ?v14) rfl (by kernel_rfl) (by kernel_rfl) (by kernel_rfl) (fun _ _ _ h => h) (Or.inl ⟨by rfl, ?hy14⟩) (by assumption) ?rest14
    case hy14 => (intro w hSw; (try dsimp only at hSw); go_simp; (try with_reducible rfl))
    (try simp only [Act.put, List.getElem_toArray, List.getElem_cons_zero, List.getElem_cons_succ, List.setIfInBounds_toArray, List.set_cons_zero, List.set_cons_succ])
    refine wpAnyH_take (i := 4) (oi := ({ dst := some 12, op := .load 2 (.tmp 11), type := 2, pos := "edit.go:184", after := #[⟨3, .data⟩], guard := none } : Go.Oper)) (v := ?v15) rfl (by kernel_rfl) (by kernel_rfl) (by kernel_rfl) (fun _ _ _ h => h) (Or.inl ⟨by rfl, ?hy15⟩) (by assumption) ?rest15
    case hy15 => (intro w hSw; (try dsimp only at hSw); go_simp; (try with_reducible rfl))
    (try simp only [Act.put, List.getElem_toArray, List.getElem_cons_zero, List.getElem_cons_succ, List.setIfInBounds_toArray, List.set_cons_zero, List.set_cons_succ])
    refine wpAnyH_take (i := 5) (oi := ({ dst := some 13, op := .fieldAddr 24 (.tmp 1) 1, type := 0, pos := "edit.go:184", after := #[], guard := none } : Go.Oper)) (v := ?v16) rfl (by kernel_rfl) (by kernel_rfl) (by kernel_rfl) (fun _ _ _ h => h) (Or.inl ⟨by rfl, ?hy16⟩) (by assumption) ?rest16
    case hy16 => (intro w hSw; (try dsimp only at hSw); go_simp; (try with_reducible rfl))
    (try simp only [Act.put, List.getElem_toArray, List.getElem_cons_zero, List.getElem_cons_succ, List.setIfInBounds_toArray, List.set_cons_zero, List.set_cons_succ])
    refine wpAnyH_take (i := 6) (oi := ({ dst := some 14, op := .load 2 (.tmp 13), type := 2, pos := "edit.go:184", after := #[⟨5, .data⟩], guard := none } : Go.Oper)) (v := ?v17) rfl (by kernel_rfl) (by kernel_rfl) (by kernel_rfl) (fun _ _ _ h => h) (Or.inl ⟨by rfl, ?hy17⟩) (by assumption) ?rest17
    case hy17 => (intro w hSw; (try dsimp only at hSw); go_simp; (try with_reducible rfl))
    (try simp only [Act.put, List.getElem_toArray, List.getElem_cons_zero, List.getElem_cons_succ, List.setIfInBounds_toArray, List.set_cons_zero, List.set_cons_succ])
    refine wpAnyH_take (i := 7) (oi := ({ dst := some 15, op := .fieldAddr 24 (.tmp 1) 2, type := 0, pos := "edit.go:184", after := #[], guard := none } : Go.Oper)) (v := ?v18) rfl (by kernel_rfl) (by kernel_rfl) (by kernel_rfl) (fun _ _ _ h => h) (Or.inl ⟨by rfl, ?hy18⟩) (by assumption) ?rest18
    case hy18 => (intro w hSw; (try dsimp only at hSw); go_simp; (try with_reducible rfl))
    (try simp only [Act.put, List.getElem_toArray, List.getElem_cons_zero, List.getElem_cons_succ, List.setIfInBounds_toArray, List.set_cons_zero, List.set_cons_succ])
    refine wpAnyH_take (i := 8) (oi := ({ dst := some 16, op := .load 2 (.tmp 15), type := 2, pos := "edit.go:184", after := #[⟨7, .data⟩], guard := none } : Go.Oper)) (v := ?v19) rfl (by kernel_rfl) (by kernel_rfl) (by kernel_rfl) (fun _ _ _ h => h) (Or.inl ⟨by rfl, ?hy19⟩) (by assumption) ?rest19
    case hy19 => (intro w hSw; (try dsimp only at hSw); go_simp; (try with_reducible rfl))
    (try simp only [Act.put, List.getElem_toArray, List.getElem_cons_zero, List.getElem_cons_succ, List.setIfInBounds_toArray, List.set_cons_zero, List.set_cons_succ])
    refine wpAnyH_take (i := 9) (oi := ({ dst := some 17, op := .fieldAddr 24 (.tmp 1) 3, type := 0, pos := "edit.go:184", after := #[], guard := none } : Go.Oper)) (v := ?v20) rfl (by kernel_rfl) (by kernel_rfl) (by kernel_rfl) (fun _ _ _ h => h) (Or.inl ⟨by rfl, ?hy20⟩) (by assumption) ?rest20
    case hy20 => (intro w hSw; (try dsimp only at hSw); go_simp; (try with_reducible rfl))
    (try simp only [Act.put, List.getElem_toArray, List.getElem_cons_zero, List.getElem_cons_succ, List.setIfInBounds_toArray, List.set_cons_zero, List.set_cons_succ])
    refine wpAnyH_take (i := 10) (oi := ({ dst := some 18, op := .load 2 (.tmp 17), type := 2, pos := "edit.go:184", after := #[⟨9, .data⟩], guard := none } : Go.Oper)) (v := ?v21) rfl (by kernel_rfl) (by kernel_rfl) (by kernel_rfl) (fun _ _ _ h => h) (Or.inl ⟨by rfl, ?hy21⟩) (by assumption) ?rest21
    case hy21 => (intro w hSw; (try dsimp only at hSw); go_simp; (try with_reducible rfl))
    (try simp only [Act.put, List.getElem_toArray, List.getElem_cons_zero, List.getElem_cons_succ, List.setIfInBounds_toArray, List.set_cons_zero, List.set_cons_succ])
    refine wpAnyH_ready (rs := [2]) (by kernel_rfl) (by simp) ?_
    refine AllReadyH.cons (o := ({ dst := some 10, op := .call { callee := .value (.func 14), args := #[.tmp 9], argTypes := #[22] }, type := 22, pos := "edit.go:184", after := #[⟨1, .data⟩], guard := none } : Go.Oper)) rfl (fun K hK => ?_) AllReadyH.nil
    go_simp
    refine (own_any A _ c x.ts _ (HL.out.ext (X0.out.trans (by with_reducible (repeat (first | exact Ext.rfl_ _ | assumption | refine Ext.drew ?_ | refine Ext.drewN ?_ _ | refine Ext.alloc ?_ _ | refine Ext.trans ?_ (by assumption)))))) (by omega)).mono ?_; rintro e w2 ⟨v2, rfl, ho, _, hw2⟩; have X2 := Lib.hid (show Ext w1 w2 from (by with_reducible (repeat (first | exact Ext.rfl_ _ | assumption | refine Ext.drew ?_ | refine Ext.drewN ?_ _ | refine Ext.alloc ?_ _ | refine Ext.trans ?_ (by assumption))))); obtain ⟨A2, c2, rfl, hc2, hr2, _⟩ := ho.form (by unfold B47; omega); have HO2 := Lib.hid ho; have B22 := Lib.hid (((Ext.below X2.out).block _ (Array.getElem?_eq_some_iff.1 B2.out).1).trans B2.out); clear hr2 ho
    (try (go_wp2_with fail))
    refine hK.out _ _ (by (try dsimp only); exact HSS.out _ (by with_reducible (repeat (first | exact Ext.rfl_ _ | assumption | refine Ext.drew ?_ | refine Ext.drewN ?_ _ | refine Ext.alloc ?_ _ | refine Ext.setCell ?_ (by first | (simp; done) | (simp; omega)) _ | refine Ext.trans ?_ (by assumption))))) (fun hHeld => ?_)
    clear hK K
    (try simp only [Act.put, List.getElem_toArray, List.getElem_cons_zero, List.getElem_cons_succ, List.setIfInBounds_toArray, List.set_cons_zero, List.set_cons_succ])
    refine wpAnyH_ready (rs := [11]) (by kernel_rfl) (by simp) ?_
    refine AllReadyH.cons (o := ({ dst := some 19, op := .build 28 #[(1, .tmp 10), (2, .tmp 12), (3, .tmp 14), (4, .tmp 16), (5, .tmp 18)], type := 28, pos := "edit.go:184", after := #[⟨2, .data⟩, ⟨4, .data⟩, ⟨6, .data⟩, ⟨8, .data⟩, ⟨10, .data⟩], guard := none } : Go.Oper)) rfl (fun K hK => ?_) AllReadyH.nil
    go_simp
    refine hK.out _ _ (by (try dsimp only); exact HSS.out _ (by with_reducible (repeat (first | exact Ext.rfl_ _ | assumption | refine Ext.drew ?_ | refine Ext.drewN ?_ _ | refine Ext.alloc ?_ _ | refine Ext.setCell ?_ (by first | (simp; done) | (simp; omega)) _ | refine Ext.trans ?_ (by assumption))))) (fun hHeld => ?_)
    clear hK K
    (try simp only [Act.put, List.getElem_toArray, List.getElem_cons_zero, List.getElem_cons_succ, List.setIfInBounds_toArray, List.set_cons_zero, List.set_cons_succ])
    refine wpAnyH_ready (rs := [12]) (by kernel_rfl) (by simp) ?_
    refine AllReadyH.cons (o := ({ dst := none, op := .store 28 (.tmp 2) (.tmp 19), type := 0, pos := "edit.go:184", after := #[⟨11, .data⟩, ⟨2, .chain⟩, ⟨0, .phase⟩, ⟨1, .phase⟩, ⟨2, .phase⟩, ⟨3, .phase⟩, ⟨4, .phase⟩, ⟨5, .phase⟩, ⟨6, .phase⟩, ⟨7, .phase⟩, ⟨8, .phase⟩, ⟨9, .phase⟩, ⟨10, .phase⟩, ⟨11, .phase⟩], guard := none } : Go.Oper)) rfl (fun K hK => ?_) AllReadyH.nil
    obtain ⟨⟨a0, a1, a2, a3, a4, a5⟩, b0, b1, b2, b3, b4, b5⟩ := box6f (show _ = _ from B22.out); go_simp
    refine hK.out _ _ (by (try dsimp only); exact HSS.out _ (by with_reducible (repeat (first | exact Ext.rfl_ _ | assumption | refine Ext.drew ?_ | refine Ext.drewN ?_ _ | refine Ext.alloc ?_ _ | refine Ext.setCell ?_ (by first | (simp; done) | (simp; omega)) _ | refine Ext.trans ?_ (by assumption))))) (fun hHeld => ?_)
    clear hK K
    (try simp only [Act.put, List.getElem_toArray, List.getElem_cons_zero, List.getElem_cons_succ, List.setIfInBounds_toArray, List.set_cons_zero, List.set_cons_succ])
    refine wpAnyH_take (i := 13) (oi := ({ dst := some 3, op := .assign (.const (.int .i64 0)), type := 29, pos := "edit.go:184", after := #[⟨12, .chain⟩, ⟨0, .phase⟩, ⟨1, .phase⟩, ⟨2, .phase⟩, ⟨3, .phase⟩, ⟨4, .phase⟩, ⟨5, .phase⟩, ⟨6, .phase⟩, ⟨7, .phase⟩, ⟨8, .phase⟩, ⟨9, .phase⟩, ⟨10, .phase⟩, ⟨11, .phase⟩, ⟨12, .phase⟩], guard := none } : Go.Oper)) (v := ?v22) rfl (by kernel_rfl) (by kernel_rfl) (by kernel_rfl) (fun _ _ _ h => h) (Or.inl ⟨by rfl, ?hy22⟩) (by assumption) ?rest22
    case hy22 => (intro w hSw; (try dsimp only at hSw); go_simp; (try with_reducible rfl))
    (try simp only [Act.put, List.getElem_toArray, List.getElem_cons_zero, List.getElem_cons_succ, List.setIfInBounds_toArray, List.set_cons_zero, List.set_cons_succ])
    refine wpAnyH_done (by kernel_rfl) ?_ _
    all_goals
      go_wp2
      obtain ⟨z0, z1', z2, z3, z4, z5⟩ := box6 (set6 (show w2.heap[w.heap.size + 1]? = _ from B22.out) (.slice none 0 0) (.slice A2 x.ts.length c2) (.int .i64 x.next) (.int .i64 x.log) (.int .i64 x.index) (.int .i64 x.seq))
      refine bodyPost_ret (v := .tuple #[edV A2 x.ts.length c2 x, .int .i64 0]) (by simp [results, Tryz.f5, go_sem, z0, z1', z2, z3, z4, z5, edV]) rfl ?_
      refine ⟨_, _, rfl, fun h => absurd HM.out h, fun _ => ⟨rfl, A2, c2, rfl, ?_, hc2⟩, ?_⟩
      · obtain ⟨A', c', e, _, hr, _⟩ := OwnT.form (base := w1.heap.size) (v := .slice A2 x.ts.length c2) (xs := x.ts) (HO2.out.other (show w2.heap[w.heap.size + 1]? = _ from B22.out) (by decide) (by decide) noU86 (grown6 w2 _ (.slice none 0 0) (.slice A2 x.ts.length c2) (.int .i64 x.next) (.int .i64 x.log) (.int .i64 x.index) (.int .i64 x.seq))) (by unfold B47; omega)
        cases e
        with_reducible exact hr
      · with_reducible exact extSet6 ((Ext.alloc (Ext.rfl_ w) _).trans (XA.trans X2.out)) (by omega) _ _ _ _ _ _
  · rw [← mayT_no hm]
    have HM := Lib.hid hm
    clear hm
    obtain ⟨⟨a0, a1, a2, a3, a4, a5⟩, b0, b1, b2, b3, b4, b5⟩ := box6f B2.out
    obtain ⟨z0, z1', z2, z3, z4, z5⟩ := box6 (set6 B2.out (.slice none 0 0) (.slice none 0 0) (.int .i64 0) (.int .i64 0) (.int .i64 0) (.int .i64 0))
    go_wp2
    refine bodyPost_ret (v := .tuple #[edV none 0 0 nilV, .int .i64 2]) (by simp [results, Tryz.f5, go_sem, z0, z1', z2, z3, z4, z5, edV, nilV]) rfl ?_
    exact ⟨_, _, rfl, fun _ => ⟨rfl, rfl⟩, fun h => absurd h HM.out, extSet6 ((Ext.rfl_ w).alloc _ |>.alloc _ |>.trans X1.out) (by omega) _ _ _ _ _ _⟩


open Go.RowKit

set_option maxRecDepth 100000 in
set_option maxHeartbeats 8000000 in
theorem eput_any (B : Option Addr) (d : Nat) (x : Ver) (w : World) (hl : RdLT w B x.ts.length x.ts) (hd : x.ts.length ≤ d) (hm : MayT x) (hn : x.ts.length ≤ 100) :
    Calls Tryz.prog 8 #[edV B x.ts.length d x] w fun e w' => ∃ v', e = .returned (.tuple #[v', .int .i64 0]) ∧ OwnB w' w.heap.size v' (frmB (payE x)) ∧ Ext w w' := by
  obtain ⟨h1, h2, h3, h4, _⟩ := hm.1
  have hp : ∀ t ∈ x.ts, placeT t = true := fun t ht => may_place hm ht
  have HP := Lib.hid hp
  have HL := Lib.hid hl
  have HN := Lib.hid (And.intro h1 (And.intro h2 (And.intro h3 h4)))
  have hpl := pay_len hm hn
  have hpm := pay_may hm hn
  have HPL := Lib.hid hpl
  have HPM := Lib.hid hpm
  have r1 := numT_iff.1 h1
  have r2 := numT_iff.1 h2
  have r3 := numT_iff.1 h3
  have r4 := numT_iff.1 h4
  have HF := Lib.hid (show [numB 0, addB x.ts, numB x.next.toNat, numB x.log.toNat, numB x.index.toNat, numB x.seq.toNat].flatten = payE x by unfold payE; simp)
  have HB := Lib.hid (heap_alloc_new w (.cells #[.slice none 0 0, .slice B x.ts.length d, .int .i64 x.next, .int .i64 x.log, .int .i64 x.index, .int .i64 x.seq] 28))
  have HS := Lib.hid (show ∀ W, Ext (w.alloc (.cells #[.slice none 0 0, .slice B x.ts.length d, .int .i64 x.next, .int .i64 x.log, .int .i64 x.index, .int .i64 x.seq] 28)) W → (W.cell? ⟨w.heap.size, 0, none⟩ = some (.slice none 0 0) ∧ W.cell? ⟨w.heap.size, 1, none⟩ = some (.slice B x.ts.length d) ∧ W.cell? ⟨w.heap.size, 2, none⟩ = some (.int .i64 x.next) ∧ W.cell? ⟨w.heap.size, 3, none⟩ = some (.int .i64 x.log) ∧ W.cell? ⟨w.heap.size, 4, none⟩ = some (.int .i64 x.index) ∧ W.cell? ⟨w.heap.size, 5, none⟩ = some (.int .i64 x.seq)) from fun W hW => box6 (((Ext.below hW).block _ (Array.getElem?_eq_some_iff.1 HB.out).1).trans HB.out))
  have hz : x.ts.length < 4096 := by omega
  clear hp hl hpl hpm h1 h2 h3 h4
  unfold edV
  go_enter Tryz.func8, Tryz.ntmps8
  obtain ⟨q0, q1, q2, q3, q4, q5⟩ := HS.out _ (Ext.rfl_ _)
  go_wp2_with fail
  refine (enumber_any x.next 1 _).mono ?_
  rintro e w' ⟨rfl, rfl⟩
  rw [HN.out.1]
  go_wp2_with fail
  refine (enumber_any x.log 0 _).mono ?_
  rintro e w' ⟨rfl, rfl⟩
  rw [HN.out.2.1]
  go_wp2_with fail
  refine (enumber_any x.index 0 _).mono ?_
  rintro e w' ⟨rfl, rfl⟩
  rw [HN.out.2.2.1]
  go_wp2_with fail
  refine (enumber_any x.seq 0 _).mono ?_
  rintro e w' ⟨rfl, rfl⟩
  rw [HN.out.2.2.2]
  go_wp2_with fail
  refine (contI_nil 0 _ _).mono ?_
  rintro e w' ⟨rfl, rfl⟩
  go_wp2_with fail
  refine (contT_any B _ d x.ts _ (HL.out.ext (by with_reducible (repeat (first | exact Ext.rfl_ _ | assumption | refine Ext.drew ?_ | refine Ext.drewN ?_ _ | refine Ext.alloc ?_ _ | refine Ext.trans ?_ (by assumption))))) HP.out).mono ?_
  rintro e w1 ⟨rfl, hw1⟩
  have X1 := Lib.hid hw1
  clear q0 q1 q2 q3 q4 q5 hw1
  obtain ⟨q0, q1, q2, q3, q4, q5⟩ := HS.out _ X1.out
  go_wp2_with fail
  refine (putI_nil 0 _).mono ?_
  rintro e w2 ⟨v2, rfl, o2, hw2⟩
  obtain ⟨A2, n2, c2, rfl, _⟩ := o2.formN
  have O2 := Lib.hid o2
  have X2 := Lib.hid (X1.out.trans hw2)
  clear q0 q1 q2 q3 q4 q5 hw2 o2
  obtain ⟨q0, q1, q2, q3, q4, q5⟩ := HS.out _ X2.out
  go_wp2_with fail
  refine (putT_any B _ d x.ts _ (HL.out.ext ((Ext.alloc (Ext.rfl_ _) _).trans X2.out)) (by omega) HP.out).mono ?_
  rintro e w3 ⟨v3, rfl, o3, hw3⟩
  obtain ⟨A3, n3, c3, rfl, _⟩ := o3.formN
  have O3 := Lib.hid o3
  have O2 := Lib.hid (O2.out.ext hw3)
  have X3 := X2.out.trans hw3
  clear q0 q1 q2 q3 q4 q5 hw3 o3
  go_wp2
  refine wp_region_held_drew (S := (fun W => W.cell? ⟨w.heap.size, 0, none⟩ = some (.slice none 0 0) ∧ W.cell? ⟨w.heap.size, 1, none⟩ = some (.slice B x.ts.length d) ∧ W.cell? ⟨w.heap.size, 2, none⟩ = some (.int .i64 x.next) ∧ W.cell? ⟨w.heap.size, 3, none⟩ = some (.int .i64 x.log) ∧ W.cell? ⟨w.heap.size, 4, none⟩ = some (.int .i64 x.index) ∧ W.cell? ⟨w.heap.size, 5, none⟩ = some (.int .i64 x.seq))) (by kernel_rfl) (by (try dsimp only); exact HS.out _ (by with_reducible (repeat (first | exact Ext.rfl_ _ | assumption | refine Ext.drew ?_ | refine Ext.drewN ?_ _ | refine Ext.alloc ?_ _ | refine Ext.trans ?_ (by assumption))))) (fun hHeld => ?_)
  refine wpAnyH_take (i := 0) (oi := ({ dst := some 68, op := .move (.tmp 5), type := 35, pos := "edit.go:110", after := #[], guard := none } : Go.Oper)) (v := ?v23) rfl (by kernel_rfl) (by kernel_rfl) (by kernel_rfl) (fun _ _ _ h => h) (Or.inl ⟨by rfl, ?hy23⟩) (by assumption) ?rest23
  case hy23 => (intro w hSw; (try dsimp only at hSw); go_simp; (try with_reducible rfl))
  (try simp only [Act.put, List.getElem_toArray, List.getElem_cons_zero, List.getElem_cons_succ, List.setIfInBounds_toArray, List.set_cons_zero, List.set_cons_succ])
  refine wpAnyH_take (i := 1) (oi := ({ dst := some 69, op := .move (.tmp 7), type := 35, pos := "edit.go:110", after := #[], guard := none } : Go.Oper)) (v := ?v24) rfl (by kernel_rfl) (by kernel_rfl) (by kernel_rfl) (fun _ _ _ h => h) (Or.inl ⟨by rfl, ?hy24⟩) (by assumption) ?rest24
  case hy24 => (intro w hSw; (try dsimp only at hSw); go_simp; (try with_reducible rfl))
  (try simp only [Act.put, List.getElem_toArray, List.getElem_cons_zero, List.getElem_cons_succ, List.setIfInBounds_toArray, List.set_cons_zero, List.set_cons_succ])
  refine wpAnyH_take (i := 2) (oi := ({ dst := some 70, op := .fieldAddr 28 (.tmp 1) 2, type := 0, pos := "edit.go:110", after := #[], guard := none } : Go.Oper)) (v := ?v25) rfl (by kernel_rfl) (by kernel_rfl) (by kernel_rfl) (fun _ _ _ h => h) (Or.inl ⟨by rfl, ?hy25⟩) (by assumption) ?rest25
  case hy25 => (intro w hSw; (try dsimp only at hSw); go_simp; (try with_reducible rfl))
  (try simp only [Act.put, List.getElem_toArray, List.getElem_cons_zero, List.getElem_cons_succ, List.setIfInBounds_toArray, List.set_cons_zero, List.set_cons_succ])
  refine wpAnyH_take (i := 3) (oi := ({ dst := some 71, op := .load 2 (.tmp 70), type := 2, pos := "edit.go:110", after := #[⟨2, .data⟩], guard := none } : Go.Oper)) (v := ?v26) rfl (by kernel_rfl) (by kernel_rfl) (by kernel_rfl) (fun _ _ _ h => h) (Or.inl ⟨by rfl, ?hy26⟩) (by assumption) ?rest26
  case hy26 => (intro w hSw; (try dsimp only at hSw); go_simp; (try with_reducible rfl))
  (try simp only [Act.put, List.getElem_toArray, List.getElem_cons_zero, List.getElem_cons_succ, List.setIfInBounds_toArray, List.set_cons_zero, List.set_cons_succ])
  refine wpAnyH_take (i := 5) (oi := ({ dst := some 73, op := .fieldAddr 28 (.tmp 1) 3, type := 0, pos := "edit.go:110", after := #[], guard := none } : Go.Oper)) (v := ?v27) rfl (by kernel_rfl) (by kernel_rfl) (by kernel_rfl) (fun _ _ _ h => h) (Or.inl ⟨by rfl, ?hy27⟩) (by assumption) ?rest27
  case hy27 => (intro w hSw; (try dsimp only at hSw); go_simp; (try with_reducible rfl))
  (try simp only [Act.put, List.getElem_toArray, List.getElem_cons_zero, List.getElem_cons_succ, List.setIfInBounds_toArray, List.set_cons_zero, List.set_cons_succ])
  refine wpAnyH_take (i := 6) (oi := ({ dst := some 74, op := .load 2 (.tmp 73), type := 2, pos := "edit.go:110", after := #[⟨5, .data⟩], guard := none } : Go.Oper)) (v := ?v28) rfl (by kernel_rfl) (by kernel_rfl) (by kernel_rfl) (fun _ _ _ h => h) (Or.inl ⟨by rfl, ?hy28⟩) (by assumption) ?rest28
  case hy28 => (intro w hSw; (try dsimp only at hSw); go_simp; (try with_reducible rfl))
  (try simp only [Act.put, List.getElem_toArray, List.getElem_cons_zero, List.getElem_cons_succ, List.setIfInBounds_toArray, List.set_cons_zero, List.set_cons_succ])
  refine wpAnyH_take (i := 8) (oi := ({ dst := some 76, op := .fieldAddr 28 (.tmp 1) 4, type := 0, pos := "edit.go:110", after := #[], guard := none } : Go.Oper)) (v := ?v29) rfl (by kernel_rfl) (by kernel_rfl) (by kernel_rfl) (fun _ _ _ h => h) (Or.inl ⟨by rfl, ?hy29⟩) (by assumption) ?rest29
  case hy29 => (intro w hSw; (try dsimp only at hSw); go_simp; (try with_reducible rfl))
  (try simp only [Act.put, List.getElem_toArray, List.getElem_cons_zero, List.getElem_cons_succ, List.setIfInBounds_toArray, List.set_cons_zero, List.set_cons_succ])
  refine wpAnyH_take (i := 9) (oi := ({ dst := some 77, op := .load 2 (.tmp 76), type := 2, pos := "edit.go:110", after := #[⟨8, .data⟩], guard := none } : Go.Oper)) (v := ?v30) rfl (by kernel_rfl) (by kernel_rfl) (by kernel_rfl) (fun _ _ _ h => h) (Or.inl ⟨by rfl, ?hy30⟩) (by assumption) ?rest30
  case hy30 => (intro w hSw; (try dsimp only at hSw); go_simp; (try with_reducible rfl))
  (try simp only [Act.put, List.getElem_toArray, List.getElem_cons_zero, List.getElem_cons_succ, List.setIfInBounds_toArray, List.set_cons_zero, List.set_cons_succ])
  refine wpAnyH_take (i := 11) (oi := ({ dst := some 79, op := .fieldAddr 28 (.tmp 1) 5, type := 0, pos := "edit.go:110", after := #[], guard := none } : Go.Oper)) (v := ?v31) rfl (by kernel_rfl) (by kernel_rfl) (by kernel_rfl) (fun _ _ _ h => h) (Or.inl ⟨by rfl, ?hy31⟩) (by assumption) ?rest31
  case hy31 => (intro w hSw; (try dsimp only at hSw); go_simp; (try with_reducible rfl))
  (try simp only [Act.put, List.getElem_toArray, List.getElem_cons_zero, List.getElem_cons_succ, List.setIfInBounds_toArray, List.set_cons_zero, List.set_cons_succ])
  refine wpAnyH_take (i := 12) (oi := ({ dst := some 80, op := .load 2 (.tmp 79), type := 2, pos := "edit.go:110", after := #[⟨11, .data⟩], guard := none } : Go.Oper)) (v := ?v32) rfl (by kernel_rfl) (by kernel_rfl) (by kernel_rfl) (fun _ _ _ h => h) (Or.inl ⟨by rfl, ?hy32⟩) (by assumption) ?rest32
  case hy32 => (intro w hSw; (try dsimp only at hSw); go_simp; (try with_reducible rfl))
  (try simp only [Act.put, List.getElem_toArray, List.getElem_cons_zero, List.getElem_cons_succ, List.setIfInBounds_toArray, List.set_cons_zero, List.set_cons_succ])
  refine wpAnyH_ready (rs := [4]) (by kernel_rfl) (by simp) ?_
  refine AllReadyH.cons (o := ({ dst := some 72, op := .call { callee := .value (.func 29), args := #[.tmp 71], argTypes := #[2] }, type := 35, pos := "edit.go:110", after := #[⟨3, .data⟩], guard := none } : Go.Oper)) rfl (fun K hK => ?_) AllReadyH.nil
  go_simp
  (with_reducible refine (num_any x.next _ (by omega) r1.2).mono ?_); rintro e w4 ⟨v4, rfl, o4, hw4⟩; have O4 := Lib.hid o4; obtain ⟨A4, n4, c4, rfl, _⟩ := o4.formN
  (try (go_wp2_with fail))
  refine hK.out _ _ (by (try dsimp only); exact HS.out _ (by with_reducible (repeat (first | exact Ext.rfl_ _ | assumption | refine Ext.drew ?_ | refine Ext.drewN ?_ _ | refine Ext.alloc ?_ _ | refine Ext.trans ?_ (by assumption))))) (fun hHeld => ?_)
  clear hK K
  (try simp only [Act.put, List.getElem_toArray, List.getElem_cons_zero, List.getElem_cons_succ, List.setIfInBounds_toArray, List.set_cons_zero, List.set_cons_succ])
  refine wpAnyH_ready (rs := [7]) (by kernel_rfl) (by simp) ?_
  refine AllReadyH.cons (o := ({ dst := some 75, op := .call { callee := .value (.func 29), args := #[.tmp 74], argTypes := #[2] }, type := 35, pos := "edit.go:110", after := #[⟨6, .data⟩, ⟨4, .chain⟩], guard := none } : Go.Oper)) rfl (fun K hK => ?_) AllReadyH.nil
  go_simp
  (with_reducible refine (num_any x.log _ (by omega) r2.2).mono ?_); rintro e w5 ⟨v5, rfl, o5, hw5⟩; have O5 := Lib.hid o5; obtain ⟨A5, n5, c5, rfl, _⟩ := o5.formN
  (try (go_wp2_with fail))
  refine hK.out _ _ (by (try dsimp only); exact HS.out _ (by with_reducible (repeat (first | exact Ext.rfl_ _ | assumption | refine Ext.drew ?_ | refine Ext.drewN ?_ _ | refine Ext.alloc ?_ _ | refine Ext.trans ?_ (by assumption))))) (fun hHeld => ?_)
  clear hK K
  (try simp only [Act.put, List.getElem_toArray, List.getElem_cons_zero, List.getElem_cons_succ, List.setIfInBounds_toArray, List.set_cons_zero, List.set_cons_succ])
  refine wpAnyH_ready (rs := [10]) (by kernel_rfl) (by simp) ?_
  refine AllReadyH.cons (o := ({ dst := some 78, op := .call { callee := .value (.func 29), args := #[.tmp 77], argTypes := #[2] }, type := 35, pos := "edit.go:110", after := #[⟨9, .data⟩, ⟨7, .chain⟩], guard := none } : Go.Oper)) rfl (fun K hK => ?_) AllReadyH.nil
  go_simp
  (with_reducible refine (num_any x.index _ (by omega) r3.2).mono ?_); rintro e w6 ⟨v6, rfl, o6, hw6⟩; have O6 := Lib.hid o6; obtain ⟨A6, n6, c6, rfl, _⟩ := o6.formN
  (try (go_wp2_with fail))
  refine hK.out _ _ (by (try dsimp only); exact HS.out _ (by with_reducible (repeat (first | exact Ext.rfl_ _ | assumption | refine Ext.drew ?_ | refine Ext.drewN ?_ _ | refine Ext.alloc ?_ _ | refine Ext.trans ?_ (by assumption))))) (fun hHeld => ?_)
  clear hK K
  (try simp only [Act.put, List.getElem_toArray, List.getElem_cons_zero, List.getElem_cons_succ, List.setIfInBounds_toArray, List.set_cons_zero, List.set_cons_succ])
  refine wpAnyH_ready (rs := [13]) (by kernel_rfl) (by simp) ?_
  refine AllReadyH.cons (o := ({ dst := some 81, op := .call { callee := .value (.func 29), args := #[.tmp 80], argTypes := #[2] }, type := 35, pos := "edit.go:110", after := #[⟨12, .data⟩, ⟨10, .chain⟩], guard := none } : Go.Oper)) rfl (fun K hK => ?_) AllReadyH.nil
  go_simp
  (with_reducible refine (num_any x.seq _ (by omega) r4.2).mono ?_); rintro e w7 ⟨v7, rfl, o7, hw7⟩; have O7 := Lib.hid o7; obtain ⟨A7, n7, c7, rfl, _⟩ := o7.formN
  (try (go_wp2_with fail))
  refine hK.out _ _ (by (try dsimp only); exact HS.out _ (by with_reducible (repeat (first | exact Ext.rfl_ _ | assumption | refine Ext.drew ?_ | refine Ext.drewN ?_ _ | refine Ext.alloc ?_ _ | refine Ext.trans ?_ (by assumption))))) (fun hHeld => ?_)
  clear hK K
  (try simp only [Act.put, List.getElem_toArray, List.getElem_cons_zero, List.getElem_cons_succ, List.setIfInBounds_toArray, List.set_cons_zero, List.set_cons_succ])
  refine wpAnyH_ready (rs := [14]) (by kernel_rfl) (by simp) ?_
  refine AllReadyH.cons (o := ({ dst := some 82, op := .buildSlice 85 6 #[(0, .tmp 68), (1, .tmp 69), (2, .tmp 72), (3, .tmp 75), (4, .tmp 78), (5, .tmp 81)], type := 85, pos := "edit.go:110", after := #[⟨0, .data⟩, ⟨1, .data⟩, ⟨4, .data⟩, ⟨7, .data⟩, ⟨10, .data⟩, ⟨13, .data⟩], guard := none } : Go.Oper)) rfl (fun K hK => ?_) AllReadyH.nil
  go_simp
  refine hK.out _ _ (by (try dsimp only); exact HS.out _ (by with_reducible (repeat (first | exact Ext.rfl_ _ | assumption | refine Ext.drew ?_ | refine Ext.drewN ?_ _ | refine Ext.alloc ?_ _ | refine Ext.trans ?_ (by assumption))))) (fun hHeld => ?_)
  clear hK K
  (try simp only [Act.put, List.getElem_toArray, List.getElem_cons_zero, List.getElem_cons_succ, List.setIfInBounds_toArray, List.set_cons_zero, List.set_cons_succ])
  refine wpAnyH_ready (rs := [15]) (by kernel_rfl) (by simp) ?_
  refine AllReadyH.cons (o := ({ dst := some 83, op := .call { callee := .value (.func 32), args := #[.tmp 82], argTypes := #[85] }, type := 35, pos := "edit.go:110", after := #[⟨14, .data⟩, ⟨13, .chain⟩], guard := none } : Go.Oper)) rfl (fun K hK => ?_) AllReadyH.nil
  go_simp
  refine (join_any _ 6 6 [numB 0, addB x.ts, numB x.next.toNat, numB x.log.toNat, numB x.index.toNat, numB x.seq.toNat] _ (RdBB.new6 ((own_rd O2.out).ext (by with_reducible (repeat (first | exact Ext.rfl_ _ | assumption | refine Ext.drew ?_ | refine Ext.drewN ?_ _ | refine Ext.alloc ?_ _ | refine Ext.trans ?_ (by assumption))))) ((own_rd O3.out).ext (by with_reducible (repeat (first | exact Ext.rfl_ _ | assumption | refine Ext.drew ?_ | refine Ext.drewN ?_ _ | refine Ext.alloc ?_ _ | refine Ext.trans ?_ (by assumption))))) ((own_rd O4.out).ext (by with_reducible (repeat (first | exact Ext.rfl_ _ | assumption | refine Ext.drew ?_ | refine Ext.drewN ?_ _ | refine Ext.alloc ?_ _ | refine Ext.trans ?_ (by assumption))))) ((own_rd O5.out).ext (by with_reducible (repeat (first | exact Ext.rfl_ _ | assumption | refine Ext.drew ?_ | refine Ext.drewN ?_ _ | refine Ext.alloc ?_ _ | refine Ext.trans ?_ (by assumption))))) ((own_rd O6.out).ext (by with_reducible (repeat (first | exact Ext.rfl_ _ | assumption | refine Ext.drew ?_ | refine Ext.drewN ?_ _ | refine Ext.alloc ?_ _ | refine Ext.trans ?_ (by assumption))))) ((own_rd O7.out).ext (by with_reducible (repeat (first | exact Ext.rfl_ _ | assumption | refine Ext.drew ?_ | refine Ext.drewN ?_ _ | refine Ext.alloc ?_ _ | refine Ext.trans ?_ (by assumption)))))) (by decide) (by rw [HF.out]; unfold B47; have := HPL.out; omega)).mono ?_; rintro e w8 ⟨v8, rfl, o8, hw8⟩; rw [HF.out] at o8; have O8 := Lib.hid o8; obtain ⟨A8, n8, c8, rfl, _⟩ := o8.formN
  (try (go_wp2_with fail))
  refine hK.out _ _ (by (try dsimp only); exact HS.out _ (by with_reducible (repeat (first | exact Ext.rfl_ _ | assumption | refine Ext.drew ?_ | refine Ext.drewN ?_ _ | refine Ext.alloc ?_ _ | refine Ext.trans ?_ (by assumption))))) (fun hHeld => ?_)
  clear hK K
  (try simp only [Act.put, List.getElem_toArray, List.getElem_cons_zero, List.getElem_cons_succ, List.setIfInBounds_toArray, List.set_cons_zero, List.set_cons_succ])
  refine wpAnyH_ready (rs := [16]) (by kernel_rfl) (by simp) ?_
  refine AllReadyH.cons (o := ({ dst := some 84, op := .call { callee := .value (.func 34), args := #[.tmp 83], argTypes := #[35] }, type := 36, pos := "edit.go:110", after := #[⟨15, .data⟩, ⟨15, .chain⟩], guard := none } : Go.Oper)) rfl (fun K hK => ?_) AllReadyH.nil
  go_simp
  refine (fput_any A8 n8 c8 (payE x) _ (own_rd O8.out) (by have := (own_rd O8.out).1; have := HPL.out; unfold B40; omega)).mono ?_; rintro e w9 ⟨v9, rfl, o9, hw9⟩
  (try (go_wp2_with fail))
  refine hK.out _ _ (by (try dsimp only); exact HS.out _ (by with_reducible (repeat (first | exact Ext.rfl_ _ | assumption | refine Ext.drew ?_ | refine Ext.drewN ?_ _ | refine Ext.alloc ?_ _ | refine Ext.trans ?_ (by assumption))))) (fun hHeld => ?_)
  clear hK K
  (try simp only [Act.put, List.getElem_toArray, List.getElem_cons_zero, List.getElem_cons_succ, List.setIfInBounds_toArray, List.set_cons_zero, List.set_cons_succ])
  refine wpAnyH_take (i := 17) (oi := ({ dst := some 85, op := .extract (.tmp 84) 0, type := 35, pos := "edit.go:110", after := #[⟨16, .data⟩], guard := none } : Go.Oper)) (v := ?v33) rfl (by kernel_rfl) (by kernel_rfl) (by kernel_rfl) (fun _ _ _ h => h) (Or.inl ⟨by rfl, ?hy33⟩) (by assumption) ?rest33
  case hy33 => (intro w hSw; (try dsimp only at hSw); go_simp; (try with_reducible rfl))
  (try simp only [Act.put, List.getElem_toArray, List.getElem_cons_zero, List.getElem_cons_succ, List.setIfInBounds_toArray, List.set_cons_zero, List.set_cons_succ])
  refine wpAnyH_take (i := 18) (oi := ({ dst := some 86, op := .extract (.tmp 84) 1, type := 29, pos := "edit.go:110", after := #[⟨16, .data⟩], guard := none } : Go.Oper)) (v := ?v34) rfl (by kernel_rfl) (by kernel_rfl) (by kernel_rfl) (fun _ _ _ h => h) (Or.inl ⟨by rfl, ?hy34⟩) (by assumption) ?rest34
  case hy34 => (intro w hSw; (try dsimp only at hSw); go_simp; (try with_reducible rfl))
  (try simp only [Act.put, List.getElem_toArray, List.getElem_cons_zero, List.getElem_cons_succ, List.setIfInBounds_toArray, List.set_cons_zero, List.set_cons_succ])
  refine wpAnyH_take (i := 19) (oi := ({ dst := some 2, op := .assign (.tmp 85), type := 35, pos := "edit.go:110", after := #[⟨17, .data⟩, ⟨16, .chain⟩, ⟨0, .phase⟩, ⟨1, .phase⟩, ⟨2, .phase⟩, ⟨3, .phase⟩, ⟨4, .phase⟩, ⟨5, .phase⟩, ⟨6, .phase⟩, ⟨7, .phase⟩, ⟨8, .phase⟩, ⟨9, .phase⟩, ⟨10, .phase⟩, ⟨11, .phase⟩, ⟨12, .phase⟩, ⟨13, .phase⟩, ⟨14, .phase⟩, ⟨15, .phase⟩, ⟨16, .phase⟩, ⟨17, .phase⟩, ⟨18, .phase⟩], guard := none } : Go.Oper)) (v := ?v35) rfl (by kernel_rfl) (by kernel_rfl) (by kernel_rfl) (fun _ _ _ h => h) (Or.inl ⟨by rfl, ?hy35⟩) (by assumption) ?rest35
  case hy35 => (intro w hSw; (try dsimp only at hSw); go_simp; (try with_reducible rfl))
  (try simp only [Act.put, List.getElem_toArray, List.getElem_cons_zero, List.getElem_cons_succ, List.setIfInBounds_toArray, List.set_cons_zero, List.set_cons_succ])
  refine wpAnyH_take (i := 20) (oi := ({ dst := some 3, op := .assign (.tmp 86), type := 29, pos := "edit.go:110", after := #[⟨18, .data⟩, ⟨19, .chain⟩, ⟨0, .phase⟩, ⟨1, .phase⟩, ⟨2, .phase⟩, ⟨3, .phase⟩, ⟨4, .phase⟩, ⟨5, .phase⟩, ⟨6, .phase⟩, ⟨7, .phase⟩, ⟨8, .phase⟩, ⟨9, .phase⟩, ⟨10, .phase⟩, ⟨11, .phase⟩, ⟨12, .phase⟩, ⟨13, .phase⟩, ⟨14, .phase⟩, ⟨15, .phase⟩, ⟨16, .phase⟩, ⟨17, .phase⟩, ⟨18, .phase⟩, ⟨19, .phase⟩], guard := none } : Go.Oper)) (v := ?v36) rfl (by kernel_rfl) (by kernel_rfl) (by kernel_rfl) (fun _ _ _ h => h) (Or.inl ⟨by rfl, ?hy36⟩) (by assumption) ?rest36
  case hy36 => (intro w hSw; (try dsimp only at hSw); go_simp; (try with_reducible rfl))
  (try simp only [Act.put, List.getElem_toArray, List.getElem_cons_zero, List.getElem_cons_succ, List.setIfInBounds_toArray, List.set_cons_zero, List.set_cons_succ])
  refine wpAnyH_done (by kernel_rfl) ?_ _
  all_goals
    go_wp2
    go_ret2
    have hN : fpN (payE x) = 0 := by unfold fpN; rw [if_neg (by have := HPL.out; omega), if_pos HPM.out]
    have hB : fpB (payE x) = frmB (payE x) := by unfold fpB; rw [if_pos HPM.out]
    rw [hN]
    rw [hB] at o9
    have XW : Ext w w8 := (Ext.alloc (Ext.rfl_ _) _).trans (show Ext (w.alloc _) w8 from (by with_reducible (repeat (first | exact Ext.rfl_ _ | assumption | refine Ext.drew ?_ | refine Ext.drewN ?_ _ | refine Ext.alloc ?_ _ | refine Ext.trans ?_ (by assumption)))))
    have o10 := OwnB.mono (base' := w.heap.size) o9 (Ext.size XW)
    exact ⟨_, rfl, o10, XW.trans hw9⟩

end Go.Proofs.YteooaplimiifiaaGreat
