/- Contract of wal.read. Conditions: the payload reads. -/
import Derived.Test.YthdahmicjlplcaaBatA
import Derived.Test.YthdahmicjlplcaaListR
import Derived.Laws.ResultCell
namespace Go.Proofs.Ythdahmicjlplcaa
set_option linter.unusedSimpArgs false
set_option linter.unusedVariables false
open Go.RowKit

theorem readW_out {x r y q : Bs} {v : Nat} {k1 k2 : Int} (h1 : NumOut x v k1 r) (h2 : BytesOut 1048576 r k2 y q) :
    readW x = if k1 = 0 ∧ k2 = 0 ∧ q = [] ∧ v ≤ 2147483647 ∧ rdLN y = 0 ∧ mayW ⟨v, rdL y⟩ = true then some ⟨v, rdL y⟩ else none := by
  rcases h1 with ⟨e1, hn⟩ | ⟨e1, hn, _⟩
  · rcases h2 with ⟨e2, hb⟩ | ⟨e2, hb, _⟩
    · by_cases hq : q = [] ∧ v ≤ 2147483647
      · obtain ⟨rfl, hv⟩ := hq
        rw [readW_list hn hb hv]
        cases hl : readL y with
        | none =>
          have := (rdL_bad hl).2
          rw [this, if_neg (by simp)]
        | some l =>
          have h0 := (rdL_ok hl).2
          have h3 := (rdL_ok hl).1
          rw [h0, h3]
          simp only [e1, e2, hv, true_and]
      · rw [readW_rest hn hb hq, if_neg (fun h => hq ⟨h.2.2.1, h.2.2.2.1⟩)]
    · rw [readW_raw hn hb, if_neg (fun h => e2 h.2.1)]
  · rw [readW_num hn, if_neg (fun h => e1 h.1)]

set_option maxRecDepth 100000 in
set_option maxHeartbeats 2000000 in
theorem wread1_any (b1 b2 b3 b4 g v : Nat) (k1 k2 : Int) (q : Bs) (w : World) (h1 : w.cell? ⟨b1, 0, none⟩ = some (.int .i64 k1)) (h2 : w.cell? ⟨b2, 0, none⟩ = some (.int .i64 k2)) (h3 : w.cell? ⟨b3, 0, none⟩ = some (.pointer (some ⟨g, 0, none⟩))) (h4 : w.cell? ⟨b4, 0, none⟩ = some (.int .u64 v)) (hr : Rdr w g q) :
    Calls Try.prog 70 #[.pointer (some ⟨b1, 0, none⟩), .pointer (some ⟨b2, 0, none⟩), .pointer (some ⟨b3, 0, none⟩), .pointer (some ⟨b4, 0, none⟩)] w fun e w' => e = .returned (.bool (decide (k1 = 0) && (decide (k2 = 0) && (decide (q = []) && decide (v ≤ 2147483647))))) ∧ w = w' := by
  have HR := Lib.hid hr
  clear hr
  by_cases e1 : k1 = 0
  · subst e1
    by_cases e2 : k2 = 0
    · subst e2
      by_cases e3 : q = []
      · subst e3
        go_enter Try.func70, Try.ntmps70
        go_wp2_with fail
        refine (rend_any g [] _ HR.out).mono ?_
        rintro e w' ⟨rfl, rfl⟩
        rw [if_pos rfl]
        go_wp2
        go_ret
        exact ⟨ret_bool (by simp only [decide_true, Bool.true_and]; exact decide_eq_decide.2 (by omega)), rfl⟩
      · have e3f : decide (q = []) = false := decide_eq_false e3
        have E3 := Lib.hid e3
        clear e3
        go_enter Try.func70, Try.ntmps70
        go_wp2_with fail
        refine (rend_any g q _ HR.out).mono ?_
        rintro e w' ⟨rfl, rfl⟩
        rw [if_neg E3.out]
        go_wp2
        go_ret
        exact ⟨ret_bool (by rw [e3f]; simp), rfl⟩
    · have e2b : (k2 == 0) = false := by simp [e2]
      have e2f : decide (k2 = 0) = false := decide_eq_false e2
      clear e2
      go_enter Try.func70, Try.ntmps70
      go_wp2
      go_ret
      exact ⟨ret_bool (by rw [e2f]; simp), rfl⟩
  · have e1b : (k1 == 0) = false := by simp [e1]
    have e1f : decide (k1 = 0) = false := decide_eq_false e1
    clear e1
    go_enter Try.func70, Try.ntmps70
    go_wp2
    go_ret
    exact ⟨ret_bool (by rw [e1f]; simp), rfl⟩

theorem w64s {v : Nat} (h : v ≤ 2147483647) : wrap64 (v : Int) = (v : Int) := by unfold wrap64; omega
theorem res2 {fn : Func} {p u : Tmp} (h : fn.results = #[.cell p 24, .tmp u]) (tmps : Array Value) (w : World) (g : Nat) (a b c : Value) (hp : tmps.getD p undef = .pointer (some ⟨g, 0, none⟩)) (hu : tmps.getD u undef = c) (hg : w.heap[g]? = some (.cells #[a, b] 24 (0, 0))) :
    (results fn tmps).run Try.prog w = .ok (.tuple #[.agg #[a, b], c]) w := by
  have hl := run_loadVar_row (P := Try.prog) w g 24 24 #[a, b] (0, 0) _ hg Try.underlying24 rfl (by kernel_rfl)
  rw [results_cell_tmp h, hp, hu]
  simp [asAddr, Result.andThen, hl]
theorem keep2 {w : World} {g r : Nat} {a b u v : Value} (h : w.cell? ⟨g, 0, none⟩ = some a ∧ w.cell? ⟨g, 1, none⟩ = some b ∧ w.frozen? ⟨g, 0, none⟩ = false ∧ w.frozen? ⟨g, 1, none⟩ = false) (hne : r ≠ g) :
    ((w.setCell ⟨r, 0, none⟩ u).setCell ⟨r, 1, none⟩ v).cell? ⟨g, 0, none⟩ = some a ∧ ((w.setCell ⟨r, 0, none⟩ u).setCell ⟨r, 1, none⟩ v).cell? ⟨g, 1, none⟩ = some b ∧ ((w.setCell ⟨r, 0, none⟩ u).setCell ⟨r, 1, none⟩ v).frozen? ⟨g, 0, none⟩ = false ∧ ((w.setCell ⟨r, 0, none⟩ u).setCell ⟨r, 1, none⟩ v).frozen? ⟨g, 1, none⟩ = false := by
  refine ⟨?_, ?_, ?_, ?_⟩
  · rw [World.cell?_setCell_other _ _ _ _ (fun e => by cases e <;> exact hne rfl), World.cell?_setCell_other _ _ _ _ (fun e => by cases e <;> exact hne rfl)]; exact h.1
  · rw [World.cell?_setCell_other _ _ _ _ (fun e => by cases e <;> exact hne rfl), World.cell?_setCell_other _ _ _ _ (fun e => by cases e <;> exact hne rfl)]; exact h.2.1
  · rw [World.frozen?_setCell, World.frozen?_setCell]; exact h.2.2.1
  · rw [World.frozen?_setCell, World.frozen?_setCell]; exact h.2.2.2

set_option maxRecDepth 100000 in
set_option maxHeartbeats 4000000 in
theorem wread_any (A : Option Addr) (n c : Nat) (x : Bs) (w : World) (hx : Rd w A n x) (hn : n ≤ B40) :
    Calls Try.prog 42 #[.slice A n c] w fun e w' => ∃ i A' n' c', e = .returned (.tuple #[.agg #[.int .i64 i, .slice A' n' c'], .bool (readW x).isSome]) ∧ n' ≤ c' ∧ (∀ y, readW x = some y → i = y.idx ∧ OwnF w' w.heap.size (.slice A' n' c') y.es) ∧ Ext w w' := by
  have HX := Lib.hid hx
  have HN := Lib.hid hn
  clear hx hn
  go_enter Try.func42, Try.ntmps42
  go_wp2_with fail
  refine (open_any A n c x _ (HX.out.ext (by with_reducible (repeat (first | exact Ext.rfl_ _ | assumption | refine Ext.drew ?_ | refine Ext.drewN ?_ _ | refine Ext.alloc ?_ _ | refine Ext.trans ?_ (by assumption))))) HN.out).mono ?_
  rintro e w1 ⟨g, rfl, hg, hr1, hw1⟩
  have hgl := hr1.lt
  have X1 := Lib.hid (show Ext w w1 from Ext.trans (by with_reducible (repeat (first | exact Ext.rfl_ _ | assumption | refine Ext.drew ?_ | refine Ext.drewN ?_ _ | refine Ext.alloc ?_ _ | refine Ext.trans ?_ (by assumption)))) hw1)
  have HR0 := Lib.hid (hw1.blk (heap_alloc_new w (.cells #[.int .i64 0, .slice none 0 0] 24)))
  have HR1 := Lib.hid (hr1.ext (show Ext w1 (w1.alloc (.cells #[.pointer (some ⟨g, 0, none⟩)] 93)) from (by with_reducible (repeat (first | exact Ext.rfl_ _ | assumption | refine Ext.drew ?_ | refine Ext.drewN ?_ _ | refine Ext.alloc ?_ _ | refine Ext.trans ?_ (by assumption))))))
  have hg1 : w.heap.size < g := by rw [World.size_alloc] at hg; omega
  have hs1 : w.heap.size < w1.heap.size := by omega
  have HB4 := Lib.hid (heap_alloc_new w1 (.cells #[.pointer (some ⟨g, 0, none⟩)] 93))
  clear hr1 hw1 hg
  go_wp2_with fail
  refine (rnum_any g x _ HR1.out).mono ?_
  rintro e w3 ⟨v, k1, r, rfl, hno, hv64, hr3, hch3⟩
  have hs3 := hch3.size
  rw [World.size_alloc] at hs3
  have HNO := Lib.hid hno
  have HB4b := Lib.hid (hch3.blk HB4.out (by omega))
  have XC := Lib.hid (show Ext w1 (w1.alloc (.cells #[.pointer (some ⟨g, 0, none⟩)] 93)) from (by with_reducible (repeat (first | exact Ext.rfl_ _ | assumption | refine Ext.drew ?_ | refine Ext.drewN ?_ _ | refine Ext.alloc ?_ _ | refine Ext.trans ?_ (by assumption)))))
  have HR0b := Lib.hid (hch3.blk (XC.out.blk HR0.out) (by omega))
  have X3 := Lib.hid (Ext.chg (X1.out.alloc (.cells #[.pointer (some ⟨g, 0, none⟩)] 93)) hch3 (by omega))
  have HR3 := Lib.hid (hr3.ext (show Ext w3 ((w3.alloc (.cells #[.int .u64 v] 55)).alloc (.cells #[.int .i64 k1] 30)) from (by with_reducible (repeat (first | exact Ext.rfl_ _ | assumption | refine Ext.drew ?_ | refine Ext.drewN ?_ _ | refine Ext.alloc ?_ _ | refine Ext.trans ?_ (by assumption))))))
  obtain ⟨t4, _, _⟩ := box1 HB4b.out (show Ext w3 ((w3.alloc (.cells #[.int .u64 v] 55)).alloc (.cells #[.int .i64 k1] 30)) from (by with_reducible (repeat (first | exact Ext.rfl_ _ | assumption | refine Ext.drew ?_ | refine Ext.drewN ?_ _ | refine Ext.alloc ?_ _ | refine Ext.trans ?_ (by assumption)))))
  clear hno hr3 hch3 HB4 HR0
  go_wp2_with fail
  refine (rbytes_any g 1048576 r _ HR3.out (by decide)).mono ?_
  rintro e w5 ⟨A2, n2, c2, k2, y, q, rfl, hbo, ho2, hr2, hnc2, -, hr5, hch5⟩
  have hs5 := hch5.size
  simp only [World.size_alloc] at hs5
  have hy : y.length ≤ 1048576 := by
    rcases hbo with ⟨_, h⟩ | ⟨_, _, h, _⟩
    · exact getB_le h
    · rw [h]; exact Nat.zero_le _
  have hn2 : n2 ≤ 1048576 := by rw [← hr2.1]; exact hy
  have HBO := Lib.hid hbo
  have XA := Lib.hid (show Ext w3 ((w3.alloc (.cells #[.int .u64 v] 55)).alloc (.cells #[.int .i64 k1] 30)) from (by with_reducible (repeat (first | exact Ext.rfl_ _ | assumption | refine Ext.drew ?_ | refine Ext.drewN ?_ _ | refine Ext.alloc ?_ _ | refine Ext.trans ?_ (by assumption)))))
  have X5 := Lib.hid (Ext.chg (X3.out.trans XA.out) hch5 (by omega))
  have HB4c := Lib.hid (hch5.blk (XA.out.blk HB4b.out) (by omega))
  have HR0c := Lib.hid (hch5.blk (XA.out.blk HR0b.out) (by omega))
  have hb5 := heap_alloc_new w3 (.cells #[.int .u64 v] 55)
  have hb6 := heap_alloc_new (w3.alloc (.cells #[.int .u64 v] 55)) (.cells #[.int .i64 k1] 30)
  rw [World.size_alloc] at hb6
  have HB5 := Lib.hid (hch5.blk ((show Ext (w3.alloc (.cells #[.int .u64 v] 55)) _ from Ext.alloc (Ext.rfl_ _) (.cells #[.int .i64 k1] 30)).blk hb5) (by omega))
  have HB6 := Lib.hid (hch5.blk hb6 (by omega))
  have HR5 := Lib.hid (hr5.ext (show Ext w5 (w5.alloc (.cells #[.int .i64 k2] 30)) from (by with_reducible (repeat (first | exact Ext.rfl_ _ | assumption | refine Ext.drew ?_ | refine Ext.drewN ?_ _ | refine Ext.alloc ?_ _ | refine Ext.trans ?_ (by assumption))))))
  have HY := Lib.hid (hr2.ext (show Ext w5 (w5.alloc (.cells #[.int .i64 k2] 30)) from (by with_reducible (repeat (first | exact Ext.rfl_ _ | assumption | refine Ext.drew ?_ | refine Ext.drewN ?_ _ | refine Ext.alloc ?_ _ | refine Ext.trans ?_ (by assumption))))))
  have XB := Lib.hid (show Ext w5 (w5.alloc (.cells #[.int .i64 k2] 30)) from (by with_reducible (repeat (first | exact Ext.rfl_ _ | assumption | refine Ext.drew ?_ | refine Ext.drewN ?_ _ | refine Ext.alloc ?_ _ | refine Ext.trans ?_ (by assumption)))))
  have HB8 := Lib.hid (heap_alloc_new w5 (.cells #[.int .i64 k2] 30))
  clear hbo ho2 hr2 hr5 hch5 hb5 hb6 HB4b HR0b HR3 hy t4
  go_wp2_with fail
  refine (lists_any A2 n2 c2 y _ HY.out (by unfold B40; omega)).mono ?_
  rintro e w7 ⟨v7, b0, rfl, hb0, ho7, hw7⟩
  obtain ⟨A7, n7, c7, rfl, hnc7, hr7, _⟩ := ho7.ownL.formN (by have := rdL_len y; unfold B41; omega)
  rw [World.size_alloc] at hb0
  have hs7 := hw7.size
  rw [World.size_alloc] at hs7
  obtain ⟨W8, hW8⟩ : ∃ W8 : World → World, W8 = fun w => w := ⟨_, rfl⟩
  have HO7 := Lib.hid ho7
  have HR7 := Lib.hid hr7
  have HB4d := Lib.hid (hw7.blk (XB.out.blk HB4c.out))
  have HR0d := Lib.hid (hw7.blk (XB.out.blk HR0c.out))
  have HB5d := Lib.hid (hw7.blk (XB.out.blk HB5.out))
  have HB6d := Lib.hid (hw7.blk (XB.out.blk HB6.out))
  have HB8d := Lib.hid (hw7.blk HB8.out)
  have HR7r := Lib.hid (HR5.out.ext hw7)
  have X7 := Lib.hid (X5.out.trans (XB.out.trans hw7))
  clear ho7 hr7 HB4c HR0c HB5 HB6 HB8 HR5 hW8 W8 hw7
  obtain ⟨t5, _, _⟩ := box1 HB5d.out (Ext.rfl_ _)
  go_wp2_with fail
  obtain ⟨z, hz⟩ : ∃ z, z = wrap64 (v : Int) := ⟨_, rfl⟩
  obtain ⟨L, hL⟩ : ∃ L, L = rdLN y := ⟨_, rfl⟩
  obtain ⟨b, hb⟩ : ∃ b, b = (decide (k1 = 0) && (decide (k2 = 0) && (decide (q = []) && decide (v ≤ 2147483647)))) := ⟨_, rfl⟩
  have hzv : v ≤ 2147483647 → z = (v : Int) := fun h => by rw [hz]; exact w64s h
  have hxa : Ext w7 (w7.alloc (.cells #[.int .i64 (wrap64 (v : Int)), .slice A7 n7 c7] 24)) := (by with_reducible (repeat (first | exact Ext.rfl_ _ | assumption | refine Ext.drew ?_ | refine Ext.drewN ?_ _ | refine Ext.alloc ?_ _ | refine Ext.trans ?_ (by assumption))))
  have hb12 := heap_alloc_new w7 (.cells #[.int .i64 (wrap64 (v : Int)), .slice A7 n7 c7] 24)
  rw [← hz] at hxa hb12 ⊢
  rw [← hL]
  have hsz8 := World.size_alloc w7 (.cells #[.int .i64 z, .slice A7 n7 c7] 24)
  obtain ⟨W8, hW8⟩ : ∃ W8, W8 = w7.alloc (.cells #[.int .i64 z, .slice A7 n7 c7] 24) := ⟨_, rfl⟩
  rw [← hW8] at hxa hb12 hsz8 ⊢
  have HB12 := Lib.hid hb12
  have X8 := Lib.hid (X7.out.trans hxa)
  have HR8 := Lib.hid (hxa.blk HR0d.out)
  have K4 := Lib.hid (box1 HB4d.out hxa).1
  have K5 := Lib.hid (box1 HB5d.out hxa).1
  have K6 := Lib.hid (box1 HB6d.out hxa).1
  have K8 := Lib.hid (box1 HB8d.out hxa).1
  have HRQ := Lib.hid (HR7r.out.ext hxa)
  have HR78 := Lib.hid (HR7.out.ext hxa)
  have HO8 := Lib.hid (HO7.out.ext hxa)
  have HZ := Lib.hid hzv
  have HLL := Lib.hid hL
  have HBB := Lib.hid hb.symm
  have hout := readW_out HNO.out HBO.out
  rw [← hL] at hout
  have HOUT := Lib.hid hout
  clear hxa hb12 hW8 hz hL hzv hout t5
  cases b with
  | false =>
    have hno : Hid (readW x = none) := Lib.hid (by
      rw [HOUT.out, if_neg]
      intro h
      have := HBB.out
      simp [h.1, h.2.1, h.2.2.1, h.2.2.2.1] at this)
    clear hb
    refine wp_region_held_drew (S := (fun w' => w'.cell? ⟨w7.heap.size, 0, none⟩ = some (.int .i64 z) ∧ w'.cell? ⟨w7.heap.size, 1, none⟩ = some (.slice A7 n7 c7) ∧ w'.frozen? ⟨w7.heap.size, 0, none⟩ = false ∧ w'.frozen? ⟨w7.heap.size, 1, none⟩ = false)) (by kernel_rfl) (by (try dsimp only); first | exact keep2 (box2 HB12.out (show Ext W8 _ from (by with_reducible (repeat (first | exact Ext.rfl_ _ | assumption | refine Ext.drew ?_ | refine Ext.drewN ?_ _ | refine Ext.alloc ?_ _ | refine Ext.trans ?_ (by assumption)))))) (by omega) | exact box2 HB12.out (by with_reducible (repeat (first | exact Ext.rfl_ _ | assumption | refine Ext.drew ?_ | refine Ext.drewN ?_ _ | refine Ext.alloc ?_ _ | refine Ext.trans ?_ (by assumption))))) (fun hHeld => ?_)
    refine wpAnyH_take (i := 0) (oi := ({ dst := some 35, op := Go.Op.load 24 (Go.Operand.tmp 12), type := 24, pos := "wal.go:37", after := #[], guard := none } : Go.Oper)) (v := ?v1) rfl (by kernel_rfl) (by kernel_rfl) (by kernel_rfl) (fun _ _ _ h => h) (Or.inl ⟨by rfl, ?hy1⟩) (by assumption) ?rest1
    case hy1 => (intro w hSw; (try dsimp only at hSw); go_simp; (try with_reducible rfl))
    (try simp only [Act.put, List.getElem_toArray, List.getElem_cons_zero, List.getElem_cons_succ, List.setIfInBounds_toArray, List.set_cons_zero, List.set_cons_succ])
    refine wpAnyH_take (i := 1) (oi := ({ dst := some 36, op := Go.Op.move (Go.Operand.tmp 9), type := 27, pos := "wal.go:37", after := #[], guard := none } : Go.Oper)) (v := ?v2) rfl (by kernel_rfl) (by kernel_rfl) (by kernel_rfl) (fun _ _ _ h => h) (Or.inl ⟨by rfl, ?hy2⟩) (by assumption) ?rest2
    case hy2 => (intro w hSw; (try dsimp only at hSw); go_simp; (try with_reducible rfl))
    (try simp only [Act.put, List.getElem_toArray, List.getElem_cons_zero, List.getElem_cons_succ, List.setIfInBounds_toArray, List.set_cons_zero, List.set_cons_succ])
    refine wpAnyH_ready (rs := [2]) (by kernel_rfl) (by simp) ?_
    refine AllReadyH.cons (o := ({ dst := some 37, op := Go.Op.call { callee := Go.Callee.value (Go.Operand.tmp 36), args := #[], argTypes := #[] }, type := 4, pos := "wal.go:37", after := #[{ on := 1, ground := Go.Ground.data }], guard := none } : Go.Oper)) rfl (fun K hK => ?_) AllReadyH.nil
    go_simp
    (first | (go_at_call 70; refine (wread1_any (w3.heap.size + 1) w5.heap.size w1.heap.size w3.heap.size g v k1 k2 q _ (Ext.keeps (show Ext W8 _ from (by with_reducible (repeat (first | exact Ext.rfl_ _ | assumption | refine Ext.drew ?_ | refine Ext.drewN ?_ _ | refine Ext.alloc ?_ _ | refine Ext.trans ?_ (by assumption))))) _ _ _ K6.out) (Ext.keeps (show Ext W8 _ from (by with_reducible (repeat (first | exact Ext.rfl_ _ | assumption | refine Ext.drew ?_ | refine Ext.drewN ?_ _ | refine Ext.alloc ?_ _ | refine Ext.trans ?_ (by assumption))))) _ _ _ K8.out) (Ext.keeps (show Ext W8 _ from (by with_reducible (repeat (first | exact Ext.rfl_ _ | assumption | refine Ext.drew ?_ | refine Ext.drewN ?_ _ | refine Ext.alloc ?_ _ | refine Ext.trans ?_ (by assumption))))) _ _ _ K4.out) (Ext.keeps (show Ext W8 _ from (by with_reducible (repeat (first | exact Ext.rfl_ _ | assumption | refine Ext.drew ?_ | refine Ext.drewN ?_ _ | refine Ext.alloc ?_ _ | refine Ext.trans ?_ (by assumption))))) _ _ _ K5.out) (HRQ.out.ext (by with_reducible (repeat (first | exact Ext.rfl_ _ | assumption | refine Ext.drew ?_ | refine Ext.drewN ?_ _ | refine Ext.alloc ?_ _ | refine Ext.trans ?_ (by assumption)))))).mono ?_; rintro e w9 ⟨rfl, rfl⟩; rw [HBB.out]))
    (try (go_wp2_with fail))
    refine hK.out _ _ (by (try dsimp only); first | exact keep2 (box2 HB12.out (show Ext W8 _ from (by with_reducible (repeat (first | exact Ext.rfl_ _ | assumption | refine Ext.drew ?_ | refine Ext.drewN ?_ _ | refine Ext.alloc ?_ _ | refine Ext.trans ?_ (by assumption)))))) (by omega) | exact box2 HB12.out (by with_reducible (repeat (first | exact Ext.rfl_ _ | assumption | refine Ext.drew ?_ | refine Ext.drewN ?_ _ | refine Ext.alloc ?_ _ | refine Ext.trans ?_ (by assumption))))) (fun hHeld => ?_)
    clear hK K
    (try simp only [Act.put, List.getElem_toArray, List.getElem_cons_zero, List.getElem_cons_succ, List.setIfInBounds_toArray, List.set_cons_zero, List.set_cons_succ])
    refine wpAnyH_take (i := 3) (oi := ({ dst := some 38, op := Go.Op.move (Go.Operand.tmp 37), type := 4, pos := "wal.go:37", after := #[{ on := 2, ground := Go.Ground.data }, { on := 2, ground := Go.Ground.chain }], guard := none } : Go.Oper)) (v := ?v3) rfl (by kernel_rfl) (by kernel_rfl) (by kernel_rfl) (fun _ _ _ h => h) (Or.inl ⟨by rfl, ?hy3⟩) (by assumption) ?rest3
    case hy3 => (intro w hSw; (try dsimp only at hSw); go_simp; (try with_reducible rfl))
    (try simp only [Act.put, List.getElem_toArray, List.getElem_cons_zero, List.getElem_cons_succ, List.setIfInBounds_toArray, List.set_cons_zero, List.set_cons_succ])
    refine wpAnyH_take (i := 4) (oi := ({ dst := some 39, op := Go.Op.move (Go.Operand.tmp 11), type := 30, pos := "wal.go:37", after := #[{ on := 3, ground := Go.Ground.guard }], guard := some (3, true) } : Go.Oper)) (v := undef) rfl (by kernel_rfl) (by kernel_rfl) (by kernel_rfl) (fun _ _ _ h => h) (Or.inr ⟨by rfl, rfl⟩) (by assumption) ?_
    (try simp only [Act.put, List.getElem_toArray, List.getElem_cons_zero, List.getElem_cons_succ, List.setIfInBounds_toArray, List.set_cons_zero, List.set_cons_succ])
    refine wpAnyH_take (i := 5) (oi := ({ dst := some 40, op := Go.Op.binOp Go.BinOp.eql 30 (Go.Operand.tmp 39) (Go.Operand.const (Go.Value.int Go.IntKind.i64 0)) 30, type := 4, pos := "wal.go:37", after := #[{ on := 4, ground := Go.Ground.data }, { on := 3, ground := Go.Ground.guard }], guard := some (3, true) } : Go.Oper)) (v := undef) rfl (by kernel_rfl) (by kernel_rfl) (by kernel_rfl) (fun _ _ _ h => h) (Or.inr ⟨by rfl, rfl⟩) (by assumption) ?_
    (try simp only [Act.put, List.getElem_toArray, List.getElem_cons_zero, List.getElem_cons_succ, List.setIfInBounds_toArray, List.set_cons_zero, List.set_cons_succ])
    refine wpAnyH_take (i := 6) (oi := ({ dst := some 41, op := Go.Op.pick (Go.Operand.tmp 38) (Go.Operand.tmp 40) (Go.Operand.const (Go.Value.bool false)), type := 4, pos := "wal.go:37", after := #[{ on := 3, ground := Go.Ground.data }, { on := 5, ground := Go.Ground.data }], guard := none } : Go.Oper)) (v := ?v4) rfl (by kernel_rfl) (by kernel_rfl) (by kernel_rfl) (fun _ _ _ h => h) (Or.inl ⟨by rfl, ?hy4⟩) (by assumption) ?rest4
    case hy4 => (intro w hSw; (try dsimp only at hSw); go_simp; (try with_reducible rfl))
    (try simp only [Act.put, List.getElem_toArray, List.getElem_cons_zero, List.getElem_cons_succ, List.setIfInBounds_toArray, List.set_cons_zero, List.set_cons_succ])
    refine wpAnyH_take (i := 7) (oi := ({ dst := some 42, op := Go.Op.move (Go.Operand.tmp 41), type := 4, pos := "wal.go:37", after := #[{ on := 6, ground := Go.Ground.data }, { on := 3, ground := Go.Ground.chain }], guard := none } : Go.Oper)) (v := ?v5) rfl (by kernel_rfl) (by kernel_rfl) (by kernel_rfl) (fun _ _ _ h => h) (Or.inl ⟨by rfl, ?hy5⟩) (by assumption) ?rest5
    case hy5 => (intro w hSw; (try dsimp only at hSw); go_simp; (try with_reducible rfl))
    (try simp only [Act.put, List.getElem_toArray, List.getElem_cons_zero, List.getElem_cons_succ, List.setIfInBounds_toArray, List.set_cons_zero, List.set_cons_succ])
    refine wpAnyH_take (i := 8) (oi := ({ dst := some 43, op := Go.Op.load 24 (Go.Operand.tmp 12), type := 24, pos := "wal.go:37", after := #[{ on := 7, ground := Go.Ground.guard }], guard := some (7, true) } : Go.Oper)) (v := undef) rfl (by kernel_rfl) (by kernel_rfl) (by kernel_rfl) (fun _ _ _ h => h) (Or.inr ⟨by rfl, rfl⟩) (by assumption) ?_
    (try simp only [Act.put, List.getElem_toArray, List.getElem_cons_zero, List.getElem_cons_succ, List.setIfInBounds_toArray, List.set_cons_zero, List.set_cons_succ])
    refine wpAnyH_take (i := 9) (oi := ({ dst := some 44, op := Go.Op.call { callee := Go.Callee.value (Go.Operand.func 13), args := #[Go.Operand.tmp 43], argTypes := #[24] }, type := 4, pos := "wal.go:37", after := #[{ on := 8, ground := Go.Ground.data }, { on := 7, ground := Go.Ground.chain }, { on := 7, ground := Go.Ground.guard }], guard := some (7, true) } : Go.Oper)) (v := undef) rfl (by kernel_rfl) (by kernel_rfl) (by kernel_rfl) (fun _ _ _ h => h) (Or.inr ⟨by rfl, rfl⟩) (by assumption) ?_
    (try simp only [Act.put, List.getElem_toArray, List.getElem_cons_zero, List.getElem_cons_succ, List.setIfInBounds_toArray, List.set_cons_zero, List.set_cons_succ])
    refine wpAnyH_take (i := 10) (oi := ({ dst := some 45, op := Go.Op.pick (Go.Operand.tmp 42) (Go.Operand.tmp 44) (Go.Operand.const (Go.Value.bool false)), type := 4, pos := "wal.go:37", after := #[{ on := 7, ground := Go.Ground.data }, { on := 9, ground := Go.Ground.data }, { on := 11, ground := Go.Ground.gcOnly Go.Departure.lateStores }], guard := none } : Go.Oper)) (v := ?v6) rfl (by kernel_rfl) (by kernel_rfl) (by kernel_rfl) (fun _ _ _ h => h) (Or.inl ⟨by rfl, ?hy6⟩) (by assumption) ?rest6
    case hy6 => (intro w hSw; (try dsimp only at hSw); go_simp; (try with_reducible rfl))
    (try simp only [Act.put, List.getElem_toArray, List.getElem_cons_zero, List.getElem_cons_succ, List.setIfInBounds_toArray, List.set_cons_zero, List.set_cons_succ])
    refine wpAnyH_ready (rs := [11]) (by kernel_rfl) (by simp) ?_
    refine AllReadyH.cons (o := ({ dst := none, op := Go.Op.store 24 (Go.Operand.tmp 2) (Go.Operand.tmp 35), type := 0, pos := "wal.go:37", after := #[{ on := 0, ground := Go.Ground.data }, { on := 9, ground := Go.Ground.chain }, { on := 0, ground := Go.Ground.phase }, { on := 1, ground := Go.Ground.textOnly Go.Departure.lateStores }, { on := 2, ground := Go.Ground.textOnly Go.Departure.lateStoresUnsure }, { on := 3, ground := Go.Ground.textOnly Go.Departure.lateStores }, { on := 4, ground := Go.Ground.textOnly Go.Departure.lateStores }, { on := 5, ground := Go.Ground.textOnly Go.Departure.lateStores }, { on := 6, ground := Go.Ground.textOnly Go.Departure.lateStores }, { on := 7, ground := Go.Ground.textOnly Go.Departure.lateStores }, { on := 8, ground := Go.Ground.textOnly Go.Departure.lateStores }, { on := 9, ground := Go.Ground.textOnly Go.Departure.lateStoresUnsure }, { on := 10, ground := Go.Ground.textOnly Go.Departure.lateStores }], guard := none } : Go.Oper)) rfl (fun K hK => ?_) AllReadyH.nil
    obtain ⟨r00, r01, f00, f01⟩ := box2 HR8.out (show Ext W8 _ from (by with_reducible (repeat (first | exact Ext.rfl_ _ | assumption | refine Ext.drew ?_ | refine Ext.drewN ?_ _ | refine Ext.alloc ?_ _ | refine Ext.trans ?_ (by assumption))))); go_simp
    refine hK.out _ _ (by (try dsimp only); first | exact keep2 (box2 HB12.out (show Ext W8 _ from (by with_reducible (repeat (first | exact Ext.rfl_ _ | assumption | refine Ext.drew ?_ | refine Ext.drewN ?_ _ | refine Ext.alloc ?_ _ | refine Ext.trans ?_ (by assumption)))))) (by omega) | exact box2 HB12.out (by with_reducible (repeat (first | exact Ext.rfl_ _ | assumption | refine Ext.drew ?_ | refine Ext.drewN ?_ _ | refine Ext.alloc ?_ _ | refine Ext.trans ?_ (by assumption))))) (fun hHeld => ?_)
    clear hK K
    (try simp only [Act.put, List.getElem_toArray, List.getElem_cons_zero, List.getElem_cons_succ, List.setIfInBounds_toArray, List.set_cons_zero, List.set_cons_succ])
    refine wpAnyH_take (i := 12) (oi := ({ dst := some 3, op := Go.Op.assign (Go.Operand.tmp 45), type := 4, pos := "wal.go:37", after := #[{ on := 10, ground := Go.Ground.data }, { on := 11, ground := Go.Ground.chain }, { on := 0, ground := Go.Ground.phase }, { on := 1, ground := Go.Ground.phase }, { on := 2, ground := Go.Ground.phase }, { on := 3, ground := Go.Ground.phase }, { on := 4, ground := Go.Ground.phase }, { on := 5, ground := Go.Ground.phase }, { on := 6, ground := Go.Ground.phase }, { on := 7, ground := Go.Ground.phase }, { on := 8, ground := Go.Ground.phase }, { on := 9, ground := Go.Ground.phase }, { on := 10, ground := Go.Ground.phase }, { on := 11, ground := Go.Ground.phase }], guard := none } : Go.Oper)) (v := ?v7) rfl (by kernel_rfl) (by kernel_rfl) (by kernel_rfl) (fun _ _ _ h => h) (Or.inl ⟨by rfl, ?hy7⟩) (by assumption) ?rest7
    case hy7 => (intro w hSw; (try dsimp only at hSw); go_simp; (try with_reducible rfl))
    (try simp only [Act.put, List.getElem_toArray, List.getElem_cons_zero, List.getElem_cons_succ, List.setIfInBounds_toArray, List.set_cons_zero, List.set_cons_succ])
    refine wpAnyH_done (by kernel_rfl) ?_ _
    all_goals
      go_wp2
      have h1 := setRow_cell (i := 0) (show W8.heap[w.heap.size]? = some (.cells #[.int .i64 0, .slice none 0 0] 24 (0, 0)) from HR8.out) (.int .i64 z)
      have h2 := setRow_cell (i := 1) h1 (.slice A7 n7 c7)
      refine bodyPost_ret (v := .tuple #[.agg #[.int .i64 z, .slice A7 n7 c7], .bool false]) (res2 rfl _ _ w.heap.size (.int .i64 z) (.slice A7 n7 c7) _ rfl rfl h2) rfl ?_
      refine ⟨z, A7, n7, c7, by rw [hno.out]; rfl, hnc7, fun y' h => (by rw [hno.out] at h; cases h), ?_⟩
      exact (((X8.out.setCell (Nat.le_refl _) _).setCell (Nat.le_refl _) _).drew)
  | true =>
    have hb' := HBB.out
    simp only [Bool.and_eq_true, decide_eq_true_eq] at hb'
    obtain ⟨hk1, hk2, hq, hv⟩ := hb'
    have hzv := HZ.out hv
    by_cases hL0 : L = 0
    · have hL0b : (L == 0) = true := by simp [hL0]
      obtain ⟨m, hm⟩ : ∃ m, m = mayW ⟨z, rdL y⟩ := ⟨_, rfl⟩
      have hr : Hid (readW x = if m = true then some ⟨z, rdL y⟩ else none) := Lib.hid (by
        rw [HOUT.out, hm, hzv]
        simp only [hk1, hk2, hq, hv, hL0, true_and])
      have HMM := Lib.hid hm.symm
      clear hk1 hk2 hq hv hL0 hm hb hzv
      refine wp_region_held_drew (S := (fun w' => w'.cell? ⟨w7.heap.size, 0, none⟩ = some (.int .i64 z) ∧ w'.cell? ⟨w7.heap.size, 1, none⟩ = some (.slice A7 n7 c7) ∧ w'.frozen? ⟨w7.heap.size, 0, none⟩ = false ∧ w'.frozen? ⟨w7.heap.size, 1, none⟩ = false)) (by kernel_rfl) (by (try dsimp only); first | exact keep2 (box2 HB12.out (show Ext W8 _ from (by with_reducible (repeat (first | exact Ext.rfl_ _ | assumption | refine Ext.drew ?_ | refine Ext.drewN ?_ _ | refine Ext.alloc ?_ _ | refine Ext.trans ?_ (by assumption)))))) (by omega) | exact box2 HB12.out (by with_reducible (repeat (first | exact Ext.rfl_ _ | assumption | refine Ext.drew ?_ | refine Ext.drewN ?_ _ | refine Ext.alloc ?_ _ | refine Ext.trans ?_ (by assumption))))) (fun hHeld => ?_)
      refine wpAnyH_take (i := 0) (oi := ({ dst := some 35, op := Go.Op.load 24 (Go.Operand.tmp 12), type := 24, pos := "wal.go:37", after := #[], guard := none } : Go.Oper)) (v := ?v8) rfl (by kernel_rfl) (by kernel_rfl) (by kernel_rfl) (fun _ _ _ h => h) (Or.inl ⟨by rfl, ?hy8⟩) (by assumption) ?rest8
      case hy8 => (intro w hSw; (try dsimp only at hSw); go_simp; (try with_reducible rfl))
      (try simp only [Act.put, List.getElem_toArray, List.getElem_cons_zero, List.getElem_cons_succ, List.setIfInBounds_toArray, List.set_cons_zero, List.set_cons_succ])
      refine wpAnyH_take (i := 1) (oi := ({ dst := some 36, op := Go.Op.move (Go.Operand.tmp 9), type := 27, pos := "wal.go:37", after := #[], guard := none } : Go.Oper)) (v := ?v9) rfl (by kernel_rfl) (by kernel_rfl) (by kernel_rfl) (fun _ _ _ h => h) (Or.inl ⟨by rfl, ?hy9⟩) (by assumption) ?rest9
      case hy9 => (intro w hSw; (try dsimp only at hSw); go_simp; (try with_reducible rfl))
      (try simp only [Act.put, List.getElem_toArray, List.getElem_cons_zero, List.getElem_cons_succ, List.setIfInBounds_toArray, List.set_cons_zero, List.set_cons_succ])
      refine wpAnyH_ready (rs := [2]) (by kernel_rfl) (by simp) ?_
      refine AllReadyH.cons (o := ({ dst := some 37, op := Go.Op.call { callee := Go.Callee.value (Go.Operand.tmp 36), args := #[], argTypes := #[] }, type := 4, pos := "wal.go:37", after := #[{ on := 1, ground := Go.Ground.data }], guard := none } : Go.Oper)) rfl (fun K hK => ?_) AllReadyH.nil
      go_simp
      (first | (go_at_call 70; refine (wread1_any (w3.heap.size + 1) w5.heap.size w1.heap.size w3.heap.size g v k1 k2 q _ (Ext.keeps (show Ext W8 _ from (by with_reducible (repeat (first | exact Ext.rfl_ _ | assumption | refine Ext.drew ?_ | refine Ext.drewN ?_ _ | refine Ext.alloc ?_ _ | refine Ext.trans ?_ (by assumption))))) _ _ _ K6.out) (Ext.keeps (show Ext W8 _ from (by with_reducible (repeat (first | exact Ext.rfl_ _ | assumption | refine Ext.drew ?_ | refine Ext.drewN ?_ _ | refine Ext.alloc ?_ _ | refine Ext.trans ?_ (by assumption))))) _ _ _ K8.out) (Ext.keeps (show Ext W8 _ from (by with_reducible (repeat (first | exact Ext.rfl_ _ | assumption | refine Ext.drew ?_ | refine Ext.drewN ?_ _ | refine Ext.alloc ?_ _ | refine Ext.trans ?_ (by assumption))))) _ _ _ K4.out) (Ext.keeps (show Ext W8 _ from (by with_reducible (repeat (first | exact Ext.rfl_ _ | assumption | refine Ext.drew ?_ | refine Ext.drewN ?_ _ | refine Ext.alloc ?_ _ | refine Ext.trans ?_ (by assumption))))) _ _ _ K5.out) (HRQ.out.ext (by with_reducible (repeat (first | exact Ext.rfl_ _ | assumption | refine Ext.drew ?_ | refine Ext.drewN ?_ _ | refine Ext.alloc ?_ _ | refine Ext.trans ?_ (by assumption)))))).mono ?_; rintro e w9 ⟨rfl, rfl⟩; rw [HBB.out]) | (go_at_call 13; refine (wmay_any _ ⟨z, rdL y⟩ _ ⟨A7, n7, c7, rfl, HR78.out.ext (by with_reducible (repeat (first | exact Ext.rfl_ _ | assumption | refine Ext.drew ?_ | refine Ext.drewN ?_ _ | refine Ext.alloc ?_ _ | refine Ext.trans ?_ (by assumption)))), hnc7⟩).mono ?_; rintro e wm ⟨rfl, hwm⟩; rw [HMM.out]))
      (try (go_wp2_with fail))
      refine hK.out _ _ (by (try dsimp only); first | exact keep2 (box2 HB12.out (show Ext W8 _ from (by with_reducible (repeat (first | exact Ext.rfl_ _ | assumption | refine Ext.drew ?_ | refine Ext.drewN ?_ _ | refine Ext.alloc ?_ _ | refine Ext.trans ?_ (by assumption)))))) (by omega) | exact box2 HB12.out (by with_reducible (repeat (first | exact Ext.rfl_ _ | assumption | refine Ext.drew ?_ | refine Ext.drewN ?_ _ | refine Ext.alloc ?_ _ | refine Ext.trans ?_ (by assumption))))) (fun hHeld => ?_)
      clear hK K
      (try simp only [Act.put, List.getElem_toArray, List.getElem_cons_zero, List.getElem_cons_succ, List.setIfInBounds_toArray, List.set_cons_zero, List.set_cons_succ])
      refine wpAnyH_take (i := 3) (oi := ({ dst := some 38, op := Go.Op.move (Go.Operand.tmp 37), type := 4, pos := "wal.go:37", after := #[{ on := 2, ground := Go.Ground.data }, { on := 2, ground := Go.Ground.chain }], guard := none } : Go.Oper)) (v := ?v10) rfl (by kernel_rfl) (by kernel_rfl) (by kernel_rfl) (fun _ _ _ h => h) (Or.inl ⟨by rfl, ?hy10⟩) (by assumption) ?rest10
      case hy10 => (intro w hSw; (try dsimp only at hSw); go_simp; (try with_reducible rfl))
      (try simp only [Act.put, List.getElem_toArray, List.getElem_cons_zero, List.getElem_cons_succ, List.setIfInBounds_toArray, List.set_cons_zero, List.set_cons_succ])
      refine wpAnyH_take (i := 4) (oi := ({ dst := some 39, op := Go.Op.move (Go.Operand.tmp 11), type := 30, pos := "wal.go:37", after := #[{ on := 3, ground := Go.Ground.guard }], guard := some (3, true) } : Go.Oper)) (v := ?v11) rfl (by kernel_rfl) (by kernel_rfl) (by kernel_rfl) (fun _ _ _ h => h) (Or.inl ⟨by rfl, ?hy11⟩) (by assumption) ?rest11
      case hy11 => (intro w hSw; (try dsimp only at hSw); go_simp; (try with_reducible rfl))
      (try simp only [Act.put, List.getElem_toArray, List.getElem_cons_zero, List.getElem_cons_succ, List.setIfInBounds_toArray, List.set_cons_zero, List.set_cons_succ])
      refine wpAnyH_take (i := 5) (oi := ({ dst := some 40, op := Go.Op.binOp Go.BinOp.eql 30 (Go.Operand.tmp 39) (Go.Operand.const (Go.Value.int Go.IntKind.i64 0)) 30, type := 4, pos := "wal.go:37", after := #[{ on := 4, ground := Go.Ground.data }, { on := 3, ground := Go.Ground.guard }], guard := some (3, true) } : Go.Oper)) (v := ?v12) rfl (by kernel_rfl) (by kernel_rfl) (by kernel_rfl) (fun _ _ _ h => h) (Or.inl ⟨by rfl, ?hy12⟩) (by assumption) ?rest12
      case hy12 => (intro w hSw; (try dsimp only at hSw); go_simp; (try with_reducible rfl))
      (try simp only [Act.put, List.getElem_toArray, List.getElem_cons_zero, List.getElem_cons_succ, List.setIfInBounds_toArray, List.set_cons_zero, List.set_cons_succ])
      refine wpAnyH_take (i := 6) (oi := ({ dst := some 41, op := Go.Op.pick (Go.Operand.tmp 38) (Go.Operand.tmp 40) (Go.Operand.const (Go.Value.bool false)), type := 4, pos := "wal.go:37", after := #[{ on := 3, ground := Go.Ground.data }, { on := 5, ground := Go.Ground.data }], guard := none } : Go.Oper)) (v := ?v13) rfl (by kernel_rfl) (by kernel_rfl) (by kernel_rfl) (fun _ _ _ h => h) (Or.inl ⟨by rfl, ?hy13⟩) (by assumption) ?rest13
      case hy13 => (intro w hSw; (try dsimp only at hSw); go_simp; (try with_reducible rfl))
      (try simp only [Act.put, List.getElem_toArray, List.getElem_cons_zero, List.getElem_cons_succ, List.setIfInBounds_toArray, List.set_cons_zero, List.set_cons_succ])
      refine wpAnyH_take (i := 7) (oi := ({ dst := some 42, op := Go.Op.move (Go.Operand.tmp 41), type := 4, pos := "wal.go:37", after := #[{ on := 6, ground := Go.Ground.data }, { on := 3, ground := Go.Ground.chain }], guard := none } : Go.Oper)) (v := ?v14) rfl (by kernel_rfl) (by kernel_rfl) (by kernel_rfl) (fun _ _ _ h => h) (Or.inl ⟨by rfl, ?hy14⟩) (by assumption) ?rest14
      case hy14 => (intro w hSw; (try dsimp only at hSw); go_simp; (try with_reducible rfl))
      (try simp only [Act.put, List.getElem_toArray, List.getElem_cons_zero, List.getElem_cons_succ, List.setIfInBounds_toArray, List.set_cons_zero, List.set_cons_succ])
      refine wpAnyH_take (i := 8) (oi := ({ dst := some 43, op := Go.Op.load 24 (Go.Operand.tmp 12), type := 24, pos := "wal.go:37", after := #[{ on := 7, ground := Go.Ground.guard }], guard := some (7, true) } : Go.Oper)) (v := ?v15) rfl (by kernel_rfl) (by kernel_rfl) (by kernel_rfl) (fun _ _ _ h => h) (Or.inl ⟨by rfl, ?hy15⟩) (by assumption) ?rest15
      case hy15 => (intro w hSw; (try dsimp only at hSw); go_simp; (try with_reducible rfl))
      (try simp only [Act.put, List.getElem_toArray, List.getElem_cons_zero, List.getElem_cons_succ, List.setIfInBounds_toArray, List.set_cons_zero, List.set_cons_succ])
      refine wpAnyH_ready (rs := [9]) (by kernel_rfl) (by simp) ?_
      refine AllReadyH.cons (o := ({ dst := some 44, op := Go.Op.call { callee := Go.Callee.value (Go.Operand.func 13), args := #[Go.Operand.tmp 43], argTypes := #[24] }, type := 4, pos := "wal.go:37", after := #[{ on := 8, ground := Go.Ground.data }, { on := 7, ground := Go.Ground.chain }, { on := 7, ground := Go.Ground.guard }], guard := some (7, true) } : Go.Oper)) rfl (fun K hK => ?_) AllReadyH.nil
      go_simp
      (first | (go_at_call 70; refine (wread1_any (w3.heap.size + 1) w5.heap.size w1.heap.size w3.heap.size g v k1 k2 q _ (Ext.keeps (show Ext W8 _ from (by with_reducible (repeat (first | exact Ext.rfl_ _ | assumption | refine Ext.drew ?_ | refine Ext.drewN ?_ _ | refine Ext.alloc ?_ _ | refine Ext.trans ?_ (by assumption))))) _ _ _ K6.out) (Ext.keeps (show Ext W8 _ from (by with_reducible (repeat (first | exact Ext.rfl_ _ | assumption | refine Ext.drew ?_ | refine Ext.drewN ?_ _ | refine Ext.alloc ?_ _ | refine Ext.trans ?_ (by assumption))))) _ _ _ K8.out) (Ext.keeps (show Ext W8 _ from (by with_reducible (repeat (first | exact Ext.rfl_ _ | assumption | refine Ext.drew ?_ | refine Ext.drewN ?_ _ | refine Ext.alloc ?_ _ | refine Ext.trans ?_ (by assumption))))) _ _ _ K4.out) (Ext.keeps (show Ext W8 _ from (by with_reducible (repeat (first | exact Ext.rfl_ _ | assumption | refine Ext.drew ?_ | refine Ext.drewN ?_ _ | refine Ext.alloc ?_ _ | refine Ext.trans ?_ (by assumption))))) _ _ _ K5.out) (HRQ.out.ext (by with_reducible (repeat (first | exact Ext.rfl_ _ | assumption | refine Ext.drew ?_ | refine Ext.drewN ?_ _ | refine Ext.alloc ?_ _ | refine Ext.trans ?_ (by assumption)))))).mono ?_; rintro e w9 ⟨rfl, rfl⟩; rw [HBB.out]) | (go_at_call 13; refine (wmay_any _ ⟨z, rdL y⟩ _ ⟨A7, n7, c7, rfl, HR78.out.ext (by with_reducible (repeat (first | exact Ext.rfl_ _ | assumption | refine Ext.drew ?_ | refine Ext.drewN ?_ _ | refine Ext.alloc ?_ _ | refine Ext.trans ?_ (by assumption)))), hnc7⟩).mono ?_; rintro e wm ⟨rfl, hwm⟩; rw [HMM.out]))
      (try (go_wp2_with fail))
      refine hK.out _ _ (by (try dsimp only); first | exact keep2 (box2 HB12.out (show Ext W8 _ from (by with_reducible (repeat (first | exact Ext.rfl_ _ | assumption | refine Ext.drew ?_ | refine Ext.drewN ?_ _ | refine Ext.alloc ?_ _ | refine Ext.trans ?_ (by assumption)))))) (by omega) | exact box2 HB12.out (by with_reducible (repeat (first | exact Ext.rfl_ _ | assumption | refine Ext.drew ?_ | refine Ext.drewN ?_ _ | refine Ext.alloc ?_ _ | refine Ext.trans ?_ (by assumption))))) (fun hHeld => ?_)
      clear hK K
      (try simp only [Act.put, List.getElem_toArray, List.getElem_cons_zero, List.getElem_cons_succ, List.setIfInBounds_toArray, List.set_cons_zero, List.set_cons_succ])
      refine wpAnyH_take (i := 10) (oi := ({ dst := some 45, op := Go.Op.pick (Go.Operand.tmp 42) (Go.Operand.tmp 44) (Go.Operand.const (Go.Value.bool false)), type := 4, pos := "wal.go:37", after := #[{ on := 7, ground := Go.Ground.data }, { on := 9, ground := Go.Ground.data }, { on := 11, ground := Go.Ground.gcOnly Go.Departure.lateStores }], guard := none } : Go.Oper)) (v := ?v16) rfl (by kernel_rfl) (by kernel_rfl) (by kernel_rfl) (fun _ _ _ h => h) (Or.inl ⟨by rfl, ?hy16⟩) (by assumption) ?rest16
      case hy16 => (intro w hSw; (try dsimp only at hSw); go_simp; (try with_reducible rfl))
      (try simp only [Act.put, List.getElem_toArray, List.getElem_cons_zero, List.getElem_cons_succ, List.setIfInBounds_toArray, List.set_cons_zero, List.set_cons_succ])
      refine wpAnyH_ready (rs := [11]) (by kernel_rfl) (by simp) ?_
      refine AllReadyH.cons (o := ({ dst := none, op := Go.Op.store 24 (Go.Operand.tmp 2) (Go.Operand.tmp 35), type := 0, pos := "wal.go:37", after := #[{ on := 0, ground := Go.Ground.data }, { on := 9, ground := Go.Ground.chain }, { on := 0, ground := Go.Ground.phase }, { on := 1, ground := Go.Ground.textOnly Go.Departure.lateStores }, { on := 2, ground := Go.Ground.textOnly Go.Departure.lateStoresUnsure }, { on := 3, ground := Go.Ground.textOnly Go.Departure.lateStores }, { on := 4, ground := Go.Ground.textOnly Go.Departure.lateStores }, { on := 5, ground := Go.Ground.textOnly Go.Departure.lateStores }, { on := 6, ground := Go.Ground.textOnly Go.Departure.lateStores }, { on := 7, ground := Go.Ground.textOnly Go.Departure.lateStores }, { on := 8, ground := Go.Ground.textOnly Go.Departure.lateStores }, { on := 9, ground := Go.Ground.textOnly Go.Departure.lateStoresUnsure }, { on := 10, ground := Go.Ground.textOnly Go.Departure.lateStores }], guard := none } : Go.Oper)) rfl (fun K hK => ?_) AllReadyH.nil
      obtain ⟨r00, r01, f00, f01⟩ := box2 HR8.out (show Ext W8 wm from (by with_reducible (repeat (first | exact Ext.rfl_ _ | assumption | refine Ext.drew ?_ | refine Ext.drewN ?_ _ | refine Ext.alloc ?_ _ | refine Ext.trans ?_ (by assumption))))); go_simp
      refine hK.out _ _ (by (try dsimp only); first | exact keep2 (box2 HB12.out (show Ext W8 _ from (by with_reducible (repeat (first | exact Ext.rfl_ _ | assumption | refine Ext.drew ?_ | refine Ext.drewN ?_ _ | refine Ext.alloc ?_ _ | refine Ext.trans ?_ (by assumption)))))) (by omega) | exact box2 HB12.out (by with_reducible (repeat (first | exact Ext.rfl_ _ | assumption | refine Ext.drew ?_ | refine Ext.drewN ?_ _ | refine Ext.alloc ?_ _ | refine Ext.trans ?_ (by assumption))))) (fun hHeld => ?_)
      clear hK K
      (try simp only [Act.put, List.getElem_toArray, List.getElem_cons_zero, List.getElem_cons_succ, List.setIfInBounds_toArray, List.set_cons_zero, List.set_cons_succ])
      refine wpAnyH_take (i := 12) (oi := ({ dst := some 3, op := Go.Op.assign (Go.Operand.tmp 45), type := 4, pos := "wal.go:37", after := #[{ on := 10, ground := Go.Ground.data }, { on := 11, ground := Go.Ground.chain }, { on := 0, ground := Go.Ground.phase }, { on := 1, ground := Go.Ground.phase }, { on := 2, ground := Go.Ground.phase }, { on := 3, ground := Go.Ground.phase }, { on := 4, ground := Go.Ground.phase }, { on := 5, ground := Go.Ground.phase }, { on := 6, ground := Go.Ground.phase }, { on := 7, ground := Go.Ground.phase }, { on := 8, ground := Go.Ground.phase }, { on := 9, ground := Go.Ground.phase }, { on := 10, ground := Go.Ground.phase }, { on := 11, ground := Go.Ground.phase }], guard := none } : Go.Oper)) (v := ?v17) rfl (by kernel_rfl) (by kernel_rfl) (by kernel_rfl) (fun _ _ _ h => h) (Or.inl ⟨by rfl, ?hy17⟩) (by assumption) ?rest17
      case hy17 => (intro w hSw; (try dsimp only at hSw); go_simp; (try with_reducible rfl))
      (try simp only [Act.put, List.getElem_toArray, List.getElem_cons_zero, List.getElem_cons_succ, List.setIfInBounds_toArray, List.set_cons_zero, List.set_cons_succ])
      refine wpAnyH_done (by kernel_rfl) ?_ _
      all_goals
        go_wp2
        have hxm : Ext W8 wm := (by with_reducible (repeat (first | exact Ext.rfl_ _ | assumption | refine Ext.drew ?_ | refine Ext.drewN ?_ _ | refine Ext.alloc ?_ _ | refine Ext.trans ?_ (by assumption))))
        have h1 := setRow_cell (i := 0) (show wm.heap[w.heap.size]? = some (.cells #[.int .i64 0, .slice none 0 0] 24 (0, 0)) from hxm.blk HR8.out) (.int .i64 z)
        have h2 := setRow_cell (i := 1) h1 (.slice A7 n7 c7)
        refine bodyPost_ret (v := .tuple #[.agg #[.int .i64 z, .slice A7 n7 c7], .bool m]) (res2 rfl _ _ w.heap.size (.int .i64 z) (.slice A7 n7 c7) _ rfl rfl h2) rfl ?_
        refine ⟨z, A7, n7, c7, (by rw [hr.out]; cases m <;> rfl), hnc7, fun y' h => ?_, (((X8.out.trans hxm).setCell (p := ⟨w.heap.size, 0, none⟩) (Nat.le_refl _) _).setCell (p := ⟨w.heap.size, 1, none⟩) (Nat.le_refl _) _)⟩
        rw [hr.out] at h
        cases m with
        | false => cases h
        | true =>
          cases h
          refine ⟨rfl, ?_⟩
          have o1 := (HO8.out.ext hxm).kx (T := 24) (Kx.of_set (u := .int .i64 z) (o := 0) (hxm.blk HR8.out)) (by decide) (by decide)
          have o2 := o1.kx (T := 24) (Kx.of_set (u := .slice A7 n7 c7) (o := 1) h1) (by decide) (by decide)
          exact o2.low (by omega)
    · have hL0b : (L == 0) = false := by simp [hL0]
      have hno : Hid (readW x = none) := Lib.hid (by
        rw [HOUT.out, if_neg]
        intro h
        exact hL0 h.2.2.2.2.1)
      clear hk1 hk2 hq hv hL0 hb hzv
      refine wp_region_held_drew (S := (fun w' => w'.cell? ⟨w7.heap.size, 0, none⟩ = some (.int .i64 z) ∧ w'.cell? ⟨w7.heap.size, 1, none⟩ = some (.slice A7 n7 c7) ∧ w'.frozen? ⟨w7.heap.size, 0, none⟩ = false ∧ w'.frozen? ⟨w7.heap.size, 1, none⟩ = false)) (by kernel_rfl) (by (try dsimp only); first | exact keep2 (box2 HB12.out (show Ext W8 _ from (by with_reducible (repeat (first | exact Ext.rfl_ _ | assumption | refine Ext.drew ?_ | refine Ext.drewN ?_ _ | refine Ext.alloc ?_ _ | refine Ext.trans ?_ (by assumption)))))) (by omega) | exact box2 HB12.out (by with_reducible (repeat (first | exact Ext.rfl_ _ | assumption | refine Ext.drew ?_ | refine Ext.drewN ?_ _ | refine Ext.alloc ?_ _ | refine Ext.trans ?_ (by assumption))))) (fun hHeld => ?_)
      refine wpAnyH_take (i := 0) (oi := ({ dst := some 35, op := Go.Op.load 24 (Go.Operand.tmp 12), type := 24, pos := "wal.go:37", after := #[], guard := none } : Go.Oper)) (v := ?v18) rfl (by kernel_rfl) (by kernel_rfl) (by kernel_rfl) (fun _ _ _ h => h) (Or.inl ⟨by rfl, ?hy18⟩) (by assumption) ?rest18
      case hy18 => (intro w hSw; (try dsimp only at hSw); go_simp; (try with_reducible rfl))
      (try simp only [Act.put, List.getElem_toArray, List.getElem_cons_zero, List.getElem_cons_succ, List.setIfInBounds_toArray, List.set_cons_zero, List.set_cons_succ])
      refine wpAnyH_take (i := 1) (oi := ({ dst := some 36, op := Go.Op.move (Go.Operand.tmp 9), type := 27, pos := "wal.go:37", after := #[], guard := none } : Go.Oper)) (v := ?v19) rfl (by kernel_rfl) (by kernel_rfl) (by kernel_rfl) (fun _ _ _ h => h) (Or.inl ⟨by rfl, ?hy19⟩) (by assumption) ?rest19
      case hy19 => (intro w hSw; (try dsimp only at hSw); go_simp; (try with_reducible rfl))
      (try simp only [Act.put, List.getElem_toArray, List.getElem_cons_zero, List.getElem_cons_succ, List.setIfInBounds_toArray, List.set_cons_zero, List.set_cons_succ])
      refine wpAnyH_ready (rs := [2]) (by kernel_rfl) (by simp) ?_
      refine AllReadyH.cons (o := ({ dst := some 37, op := Go.Op.call { callee := Go.Callee.value (Go.Operand.tmp 36), args := #[], argTypes := #[] }, type := 4, pos := "wal.go:37", after := #[{ on := 1, ground := Go.Ground.data }], guard := none } : Go.Oper)) rfl (fun K hK => ?_) AllReadyH.nil
      go_simp
      (first | (go_at_call 70; refine (wread1_any (w3.heap.size + 1) w5.heap.size w1.heap.size w3.heap.size g v k1 k2 q _ (Ext.keeps (show Ext W8 _ from (by with_reducible (repeat (first | exact Ext.rfl_ _ | assumption | refine Ext.drew ?_ | refine Ext.drewN ?_ _ | refine Ext.alloc ?_ _ | refine Ext.trans ?_ (by assumption))))) _ _ _ K6.out) (Ext.keeps (show Ext W8 _ from (by with_reducible (repeat (first | exact Ext.rfl_ _ | assumption | refine Ext.drew ?_ | refine Ext.drewN ?_ _ | refine Ext.alloc ?_ _ | refine Ext.trans ?_ (by assumption))))) _ _ _ K8.out) (Ext.keeps (show Ext W8 _ from (by with_reducible (repeat (first | exact Ext.rfl_ _ | assumption | refine Ext.drew ?_ | refine Ext.drewN ?_ _ | refine Ext.alloc ?_ _ | refine Ext.trans ?_ (by assumption))))) _ _ _ K4.out) (Ext.keeps (show Ext W8 _ from (by with_reducible (repeat (first | exact Ext.rfl_ _ | assumption | refine Ext.drew ?_ | refine Ext.drewN ?_ _ | refine Ext.alloc ?_ _ | refine Ext.trans ?_ (by assumption))))) _ _ _ K5.out) (HRQ.out.ext (by with_reducible (repeat (first | exact Ext.rfl_ _ | assumption | refine Ext.drew ?_ | refine Ext.drewN ?_ _ | refine Ext.alloc ?_ _ | refine Ext.trans ?_ (by assumption)))))).mono ?_; rintro e w9 ⟨rfl, rfl⟩; rw [HBB.out]))
      (try (go_wp2_with fail))
      refine hK.out _ _ (by (try dsimp only); first | exact keep2 (box2 HB12.out (show Ext W8 _ from (by with_reducible (repeat (first | exact Ext.rfl_ _ | assumption | refine Ext.drew ?_ | refine Ext.drewN ?_ _ | refine Ext.alloc ?_ _ | refine Ext.trans ?_ (by assumption)))))) (by omega) | exact box2 HB12.out (by with_reducible (repeat (first | exact Ext.rfl_ _ | assumption | refine Ext.drew ?_ | refine Ext.drewN ?_ _ | refine Ext.alloc ?_ _ | refine Ext.trans ?_ (by assumption))))) (fun hHeld => ?_)
      clear hK K
      (try simp only [Act.put, List.getElem_toArray, List.getElem_cons_zero, List.getElem_cons_succ, List.setIfInBounds_toArray, List.set_cons_zero, List.set_cons_succ])
      refine wpAnyH_take (i := 3) (oi := ({ dst := some 38, op := Go.Op.move (Go.Operand.tmp 37), type := 4, pos := "wal.go:37", after := #[{ on := 2, ground := Go.Ground.data }, { on := 2, ground := Go.Ground.chain }], guard := none } : Go.Oper)) (v := ?v20) rfl (by kernel_rfl) (by kernel_rfl) (by kernel_rfl) (fun _ _ _ h => h) (Or.inl ⟨by rfl, ?hy20⟩) (by assumption) ?rest20
      case hy20 => (intro w hSw; (try dsimp only at hSw); go_simp; (try with_reducible rfl))
      (try simp only [Act.put, List.getElem_toArray, List.getElem_cons_zero, List.getElem_cons_succ, List.setIfInBounds_toArray, List.set_cons_zero, List.set_cons_succ])
      refine wpAnyH_take (i := 4) (oi := ({ dst := some 39, op := Go.Op.move (Go.Operand.tmp 11), type := 30, pos := "wal.go:37", after := #[{ on := 3, ground := Go.Ground.guard }], guard := some (3, true) } : Go.Oper)) (v := ?v21) rfl (by kernel_rfl) (by kernel_rfl) (by kernel_rfl) (fun _ _ _ h => h) (Or.inl ⟨by rfl, ?hy21⟩) (by assumption) ?rest21
      case hy21 => (intro w hSw; (try dsimp only at hSw); go_simp; (try with_reducible rfl))
      (try simp only [Act.put, List.getElem_toArray, List.getElem_cons_zero, List.getElem_cons_succ, List.setIfInBounds_toArray, List.set_cons_zero, List.set_cons_succ])
      refine wpAnyH_take (i := 5) (oi := ({ dst := some 40, op := Go.Op.binOp Go.BinOp.eql 30 (Go.Operand.tmp 39) (Go.Operand.const (Go.Value.int Go.IntKind.i64 0)) 30, type := 4, pos := "wal.go:37", after := #[{ on := 4, ground := Go.Ground.data }, { on := 3, ground := Go.Ground.guard }], guard := some (3, true) } : Go.Oper)) (v := ?v22) rfl (by kernel_rfl) (by kernel_rfl) (by kernel_rfl) (fun _ _ _ h => h) (Or.inl ⟨by rfl, ?hy22⟩) (by assumption) ?rest22
      case hy22 => (intro w hSw; (try dsimp only at hSw); go_simp; (try with_reducible rfl))
      (try simp only [Act.put, List.getElem_toArray, List.getElem_cons_zero, List.getElem_cons_succ, List.setIfInBounds_toArray, List.set_cons_zero, List.set_cons_succ])
      refine wpAnyH_take (i := 6) (oi := ({ dst := some 41, op := Go.Op.pick (Go.Operand.tmp 38) (Go.Operand.tmp 40) (Go.Operand.const (Go.Value.bool false)), type := 4, pos := "wal.go:37", after := #[{ on := 3, ground := Go.Ground.data }, { on := 5, ground := Go.Ground.data }], guard := none } : Go.Oper)) (v := ?v23) rfl (by kernel_rfl) (by kernel_rfl) (by kernel_rfl) (fun _ _ _ h => h) (Or.inl ⟨by rfl, ?hy23⟩) (by assumption) ?rest23
      case hy23 => (intro w hSw; (try dsimp only at hSw); go_simp; (try with_reducible rfl))
      (try simp only [Act.put, List.getElem_toArray, List.getElem_cons_zero, List.getElem_cons_succ, List.setIfInBounds_toArray, List.set_cons_zero, List.set_cons_succ])
      refine wpAnyH_take (i := 7) (oi := ({ dst := some 42, op := Go.Op.move (Go.Operand.tmp 41), type := 4, pos := "wal.go:37", after := #[{ on := 6, ground := Go.Ground.data }, { on := 3, ground := Go.Ground.chain }], guard := none } : Go.Oper)) (v := ?v24) rfl (by kernel_rfl) (by kernel_rfl) (by kernel_rfl) (fun _ _ _ h => h) (Or.inl ⟨by rfl, ?hy24⟩) (by assumption) ?rest24
      case hy24 => (intro w hSw; (try dsimp only at hSw); go_simp; (try with_reducible rfl))
      (try simp only [Act.put, List.getElem_toArray, List.getElem_cons_zero, List.getElem_cons_succ, List.setIfInBounds_toArray, List.set_cons_zero, List.set_cons_succ])
      refine wpAnyH_take (i := 8) (oi := ({ dst := some 43, op := Go.Op.load 24 (Go.Operand.tmp 12), type := 24, pos := "wal.go:37", after := #[{ on := 7, ground := Go.Ground.guard }], guard := some (7, true) } : Go.Oper)) (v := undef) rfl (by kernel_rfl) (by kernel_rfl) (by kernel_rfl) (fun _ _ _ h => h) (Or.inr ⟨by rfl, rfl⟩) (by assumption) ?_
      (try simp only [Act.put, List.getElem_toArray, List.getElem_cons_zero, List.getElem_cons_succ, List.setIfInBounds_toArray, List.set_cons_zero, List.set_cons_succ])
      refine wpAnyH_take (i := 9) (oi := ({ dst := some 44, op := Go.Op.call { callee := Go.Callee.value (Go.Operand.func 13), args := #[Go.Operand.tmp 43], argTypes := #[24] }, type := 4, pos := "wal.go:37", after := #[{ on := 8, ground := Go.Ground.data }, { on := 7, ground := Go.Ground.chain }, { on := 7, ground := Go.Ground.guard }], guard := some (7, true) } : Go.Oper)) (v := undef) rfl (by kernel_rfl) (by kernel_rfl) (by kernel_rfl) (fun _ _ _ h => h) (Or.inr ⟨by rfl, rfl⟩) (by assumption) ?_
      (try simp only [Act.put, List.getElem_toArray, List.getElem_cons_zero, List.getElem_cons_succ, List.setIfInBounds_toArray, List.set_cons_zero, List.set_cons_succ])
      refine wpAnyH_take (i := 10) (oi := ({ dst := some 45, op := Go.Op.pick (Go.Operand.tmp 42) (Go.Operand.tmp 44) (Go.Operand.const (Go.Value.bool false)), type := 4, pos := "wal.go:37", after := #[{ on := 7, ground := Go.Ground.data }, { on := 9, ground := Go.Ground.data }, { on := 11, ground := Go.Ground.gcOnly Go.Departure.lateStores }], guard := none } : Go.Oper)) (v := ?v25) rfl (by kernel_rfl) (by kernel_rfl) (by kernel_rfl) (fun _ _ _ h => h) (Or.inl ⟨by rfl, ?hy25⟩) (by assumption) ?rest25
      case hy25 => (intro w hSw; (try dsimp only at hSw); go_simp; (try with_reducible rfl))
      (try simp only [Act.put, List.getElem_toArray, List.getElem_cons_zero, List.getElem_cons_succ, List.setIfInBounds_toArray, List.set_cons_zero, List.set_cons_succ])
      refine wpAnyH_ready (rs := [11]) (by kernel_rfl) (by simp) ?_
      refine AllReadyH.cons (o := ({ dst := none, op := Go.Op.store 24 (Go.Operand.tmp 2) (Go.Operand.tmp 35), type := 0, pos := "wal.go:37", after := #[{ on := 0, ground := Go.Ground.data }, { on := 9, ground := Go.Ground.chain }, { on := 0, ground := Go.Ground.phase }, { on := 1, ground := Go.Ground.textOnly Go.Departure.lateStores }, { on := 2, ground := Go.Ground.textOnly Go.Departure.lateStoresUnsure }, { on := 3, ground := Go.Ground.textOnly Go.Departure.lateStores }, { on := 4, ground := Go.Ground.textOnly Go.Departure.lateStores }, { on := 5, ground := Go.Ground.textOnly Go.Departure.lateStores }, { on := 6, ground := Go.Ground.textOnly Go.Departure.lateStores }, { on := 7, ground := Go.Ground.textOnly Go.Departure.lateStores }, { on := 8, ground := Go.Ground.textOnly Go.Departure.lateStores }, { on := 9, ground := Go.Ground.textOnly Go.Departure.lateStoresUnsure }, { on := 10, ground := Go.Ground.textOnly Go.Departure.lateStores }], guard := none } : Go.Oper)) rfl (fun K hK => ?_) AllReadyH.nil
      obtain ⟨r00, r01, f00, f01⟩ := box2 HR8.out (show Ext W8 _ from (by with_reducible (repeat (first | exact Ext.rfl_ _ | assumption | refine Ext.drew ?_ | refine Ext.drewN ?_ _ | refine Ext.alloc ?_ _ | refine Ext.trans ?_ (by assumption))))); go_simp
      refine hK.out _ _ (by (try dsimp only); first | exact keep2 (box2 HB12.out (show Ext W8 _ from (by with_reducible (repeat (first | exact Ext.rfl_ _ | assumption | refine Ext.drew ?_ | refine Ext.drewN ?_ _ | refine Ext.alloc ?_ _ | refine Ext.trans ?_ (by assumption)))))) (by omega) | exact box2 HB12.out (by with_reducible (repeat (first | exact Ext.rfl_ _ | assumption | refine Ext.drew ?_ | refine Ext.drewN ?_ _ | refine Ext.alloc ?_ _ | refine Ext.trans ?_ (by assumption))))) (fun hHeld => ?_)
      clear hK K
      (try simp only [Act.put, List.getElem_toArray, List.getElem_cons_zero, List.getElem_cons_succ, List.setIfInBounds_toArray, List.set_cons_zero, List.set_cons_succ])
      refine wpAnyH_take (i := 12) (oi := ({ dst := some 3, op := Go.Op.assign (Go.Operand.tmp 45), type := 4, pos := "wal.go:37", after := #[{ on := 10, ground := Go.Ground.data }, { on := 11, ground := Go.Ground.chain }, { on := 0, ground := Go.Ground.phase }, { on := 1, ground := Go.Ground.phase }, { on := 2, ground := Go.Ground.phase }, { on := 3, ground := Go.Ground.phase }, { on := 4, ground := Go.Ground.phase }, { on := 5, ground := Go.Ground.phase }, { on := 6, ground := Go.Ground.phase }, { on := 7, ground := Go.Ground.phase }, { on := 8, ground := Go.Ground.phase }, { on := 9, ground := Go.Ground.phase }, { on := 10, ground := Go.Ground.phase }, { on := 11, ground := Go.Ground.phase }], guard := none } : Go.Oper)) (v := ?v26) rfl (by kernel_rfl) (by kernel_rfl) (by kernel_rfl) (fun _ _ _ h => h) (Or.inl ⟨by rfl, ?hy26⟩) (by assumption) ?rest26
      case hy26 => (intro w hSw; (try dsimp only at hSw); go_simp; (try with_reducible rfl))
      (try simp only [Act.put, List.getElem_toArray, List.getElem_cons_zero, List.getElem_cons_succ, List.setIfInBounds_toArray, List.set_cons_zero, List.set_cons_succ])
      refine wpAnyH_done (by kernel_rfl) ?_ _
      all_goals
        go_wp2
        have h1 := setRow_cell (i := 0) (show W8.heap[w.heap.size]? = some (.cells #[.int .i64 0, .slice none 0 0] 24 (0, 0)) from HR8.out) (.int .i64 z)
        have h2 := setRow_cell (i := 1) h1 (.slice A7 n7 c7)
        refine bodyPost_ret (v := .tuple #[.agg #[.int .i64 z, .slice A7 n7 c7], .bool false]) (res2 rfl _ _ w.heap.size (.int .i64 z) (.slice A7 n7 c7) _ rfl rfl h2) rfl ?_
        refine ⟨z, A7, n7, c7, by rw [hno.out]; rfl, hnc7, fun y' h => (by rw [hno.out] at h; cases h), ?_⟩
        exact (((X8.out.setCell (Nat.le_refl _) _).setCell (Nat.le_refl _) _).drew)

end Go.Proofs.Ythdahmicjlplcaa
