/- (*skip.List).search. Conditions: the list is one; what is ahead stands ahead. -/
import Derived.Test.YtddaagldelcbeaaSkM
import Derived.Test.YtddaagldelcbeaaHtA
import Derived.Test.YtddaagldelcbeaaGhost
import Derived.BigRegion
namespace Go.Proofs.Ytddaagldelcbeaa
set_option linter.unusedSimpArgs false
set_option linter.unusedVariables false
open Go.RowKit

/-- What search has laid into its array, of the levels from k on. -/
def laF (h : Nat) (A : List Nd) (k j : Nat) : Value := if k ≤ j then ptr (lst h j A) else .pointer none
def arr8 (f : Nat → Value) : Array Value := #[f 0, f 1, f 2, f 3, f 4, f 5, f 6, f 7]
abbrev arObj (f : Nat → Value) : Obj := .cells (arr8 f) 73 (0, 0)
theorem arr8_get {f : Nat → Value} (j : Nat) (hj : j < 8) : (arr8 f)[j]? = some (f j) := by
  match j, hj with
  | 0, _ => rfl
  | 1, _ => rfl
  | 2, _ => rfl
  | 3, _ => rfl
  | 4, _ => rfl
  | 5, _ => rfl
  | 6, _ => rfl
  | 7, _ => rfl
  | j + 8, h => omega
theorem arr8_set {f : Nat → Value} (j : Nat) (v : Value) : (arr8 f).setIfInBounds j v = arr8 (fun i => if i = j then v else f i) := by
  match j with
  | 0 => rfl
  | 1 => rfl
  | 2 => rfl
  | 3 => rfl
  | 4 => rfl
  | 5 => rfl
  | 6 => rfl
  | 7 => rfl
  | j + 8 =>
    rw [Array.setIfInBounds_eq_of_size_le (by simp [arr8])]
    simp [arr8]
theorem ar_set {w : World} {b : Nat} {f : Nat → Value} {t : TypeId} {fr : Nat × Nat} (h : w.heap[b]? = some (.cells (arr8 f) t fr)) (j : Nat) (v : Value) : (w.setCell ⟨b, j, none⟩ v).heap[b]? = some (.cells (arr8 (fun i => if i = j then v else f i)) t fr) := by
  rw [← arr8_set]
  simp [World.setCell, h, Array.getElem?_modify]
theorem arr8_congr {f g : Nat → Value} (h : ∀ j, j < 8 → f j = g j) : arr8 f = arr8 g := by
  unfold arr8
  rw [h 0 (by omega), h 1 (by omega), h 2 (by omega), h 3 (by omega), h 4 (by omega), h 5 (by omega), h 6 (by omega), h 7 (by omega)]

structure SeJ (w : World) (h gl : Nat) (L A0 A A2 B0 : List Nd) (n : Nat) (wr : World) : Prop where
  ext : Ext w wr
  e : A0 = A ++ A2
  ht_ : n < cH A
  n8 : n < 8
  arr : wr.heap[gl]? = some (arObj (laF h A0 (n + 1)))
  hgl : w.heap.size ≤ gl
  arr0 : ∃ f, wr.heap[w.heap.size]? = some (arObj f)

set_option maxRecDepth 100000 in
set_option maxHeartbeats 4000000 in
theorem search_any (kf : Nat) (lb : Array Value) (P : Ent → Bool) (g h : Nat) (L A0 B0 : List Nd) (w : World) (hs : SkL w g h L) (hL : L = A0 ++ B0)
    (eg : ∀ args w, (callFunc kf args).run Try.prog w = .ok (.enter kf args) w)
    (hcall : ∀ (W : World) (nd : Nd), Ext w W → nd ∈ L → Calls Try.prog kf (#[.agg (cellsE nd.h nd.x).toArray] ++ lb) W fun e W' => e = .returned (.bool (P nd.x)) ∧ Ext W W')
    (hA : ∀ nd ∈ A0, P nd.x = true) (hB : ∀ nd ∈ B0, P nd.x = false) :
    Calls Try.prog 43 #[.pointer (some ⟨g, 0, none⟩), .func (.func kf) #[] lb] w fun e w' => e = .returned (.tuple #[.agg #[.pointer (some ⟨lst h 0 A0, 0, none⟩), .pointer (some ⟨lst h 1 A0, 0, none⟩), .pointer (some ⟨lst h 2 A0, 0, none⟩), .pointer (some ⟨lst h 3 A0, 0, none⟩), .pointer (some ⟨lst h 4 A0, 0, none⟩), .pointer (some ⟨lst h 5 A0, 0, none⟩), .pointer (some ⟨lst h 6 A0, 0, none⟩), .pointer (some ⟨lst h 7 A0, 0, none⟩)], nx 0 B0]) ∧ Ext w w' := by
  have HS := Lib.hid hs
  have HCALL := Lib.hid hcall
  have HA := Lib.hid hA
  have HB := Lib.hid hB
  have EG := Lib.hid eg
  clear hs hcall hA hB eg
  have hli := HS.out.list
  go_enter Try.func43, Try.ntmps43
  go_wp2
  have hseq : ∃ w2, w2 = ((w.alloc (.cells #[.pointer none, .pointer none, .pointer none, .pointer none, .pointer none, .pointer none, .pointer none, .pointer none] 73)).alloc (.cells #[.pointer none, .pointer none, .pointer none, .pointer none, .pointer none, .pointer none, .pointer none, .pointer none] 73)) := ⟨_, rfl⟩
  obtain ⟨w2, hw2⟩ := hseq
  have hx2 : Ext w w2 := by rw [hw2]; exact (by with_reducible (repeat (first | exact Ext.rfl_ _ | assumption | refine Ext.drew ?_ | refine Ext.drewN ?_ _ | refine Ext.alloc ?_ _ | refine Ext.trans ?_ (by assumption))))
  have hz2 : w2.heap.size = w.heap.size + 2 := by rw [hw2]; simp
  have hb2 : w2.heap[w.heap.size + 1]? = some (arObj fun _ => .pointer none) := by
    have := heap_alloc_new (w.alloc (.cells #[.pointer none, .pointer none, .pointer none, .pointer none, .pointer none, .pointer none, .pointer none, .pointer none] 73)) (.cells #[.pointer none, .pointer none, .pointer none, .pointer none, .pointer none, .pointer none, .pointer none, .pointer none] 73)
    rw [World.size_alloc] at this
    rw [hw2]; exact this
  have hb1 : w2.heap[w.heap.size]? = some (arObj fun _ => .pointer none) := by
    rw [hw2]; exact (Below.heap_alloc _ _ _ (by simp)).trans (World.alloc_heap_new w _)
  have hl2 := (HS.out.ext hx2).list
  have c0 : w2.cell? ⟨g, 0, none⟩ = some (.pointer (some ⟨h, 0, none⟩)) := by rw [cell_at hl2]; rfl
  rw [hw2] at c0
  refine wp_scope_ghost 0 (fun m a' wr => ∃ (A A2 : List Nd) (n : Nat) (u9 u10 u11 u12 u13 u14 u15 u16 u17 u18 u19 u20 u21 u22 u23 u24 u25 u26 u27 u28 u29 u30 u31 u32 u33 u34 u35 u36 u37 u38 u39 u40 u41 u42 u43 : Value), a' = { tmps := #[.pointer (some ⟨g, 0, none⟩), .func (.func kf) #[] lb, undef, undef, .pointer (some ⟨w.heap.size, 0, none⟩), .pointer none, .pointer (some ⟨w.heap.size + 1, 0, none⟩), .pointer (some ⟨cb h A, 0, none⟩), .int .i64 n, u9, u10, u11, u12, u13, u14, u15, u16, u17, u18, u19, u20, u21, u22, u23, u24, u25, u26, u27, u28, u29, u30, u31, u32, u33, u34, u35, u36, u37, u38, u39, u40, u41, u42, u43], defers := [] } ∧ SeJ w h (w.heap.size + 1) L A0 A A2 B0 n wr ∧ m = n * (A0.length + 1) + A2.length) rfl ?_ ?_
  rotate_left
  · intro hpass
    go_wp2
    rw [← hw2]
    go_step3
    rename_i hK
    refine hK _ _ ?_
    refine hpass (7 * (A0.length + 1) + A0.length) _ _ ?_
    refine ⟨[], A0, 7, _, _, _, _, _, _, _, _, _, _, _, _, _, _, _, _, _, _, _, _, _, _, _, _, _, _, _, _, _, _, _, _, _, _, _, rfl, ⟨hx2, rfl, by decide, by decide, ?_, Nat.le_succ _, ⟨_, hb1⟩⟩, rfl⟩
    rw [hb2]
    exact congrArg (fun z => some (Obj.cells z 73 (0, 0))) (arr8_congr fun j hj => by unfold laF; rw [if_neg (by omega)])
  · rintro m a' wr ⟨A, A2, n, u9, u10, u11, u12, u13, u14, u15, u16, u17, u18, u19, u20, u21, u22, u23, u24, u25, u26, u27, u28, u29, u30, u31, u32, u33, u34, u35, u36, u37, u38, u39, u40, u41, u42, u43, rfl, hJ, rfl⟩
    have HJ := Lib.hid hJ
    have hsw := HS.out.ext hJ.ext
    have HSW := Lib.hid hsw
    obtain ⟨q1, q2, q3, q4, hnd, _⟩ := hsw.sk.at_ (A := A) (S := A2 ++ B0) (by rw [hL, hJ.e, List.append_assoc])
    have hn8 := hJ.n8
    have hcn : wr.cell? ⟨cb h A, 4 + n, none⟩ = some (nx n (A2 ++ B0)) := by
      rw [cell_at hnd, ndCells_get n hn8, nxs, if_pos hJ.ht_]
    clear hsw hnd hJ hw2 hx2 hz2 hb2 hl2 c0 hli
    have hn0 : (0 : Int) ≤ (n : Int) := by omega
    have hn8' : (n : Int) < 8 := by omega
    rcases nx_split n A2 B0 with ⟨C, nd, D, rfl, hC, hnd, hnx⟩ | ⟨hlow, hnx⟩
    · rw [hnx] at hcn
      unfold ptr at hcn
      have hnode := HSW.out.sk.node (A ++ C) nd (D ++ B0) (by rw [hL, HJ.out.e]; simp)
      have k0 : wr.cell? ⟨nd.b, 0, none⟩ = some (.slice nd.h.A nd.h.n nd.h.c) := by rw [cell_at hnode]; rfl
      have k1 : wr.cell? ⟨nd.b, 1, none⟩ = some (.int .i64 nd.x.seq) := by rw [cell_at hnode]; rfl
      have k2 : wr.cell? ⟨nd.b, 2, none⟩ = some (.int .i64 nd.x.kind) := by rw [cell_at hnode]; rfl
      have k3 : wr.cell? ⟨nd.b, 3, none⟩ = some (.slice nd.h.B nd.h.m nd.h.d) := by rw [cell_at hnode]; rfl
      have eg := EG.out
      clear hnode
      have hp : P nd.x = true := HA.out nd (by rw [HJ.out.e]; simp)
      have HP := Lib.hid hp
      clear hp
      go_wp2_with fail
      refine (HCALL.out wr nd HJ.out.ext (by rw [hL, HJ.out.e]; simp)).mono ?_
      rintro e w' ⟨rfl, hw'⟩
      rw [HP.out]
      have HW := Lib.hid hw'
      clear hw' k0 k1 k2 k3 hcn
      go_wp2
      go_step3
      rw [← cb_snoc h (A ++ C) nd]
      refine ⟨rfl, n * (A0.length + 1) + D.length, ?_, A ++ C ++ [nd], D, n, _, _, _, _, _, _, _, _, _, _, _, _, _, _, _, _, _, _, _, _, _, _, _, _, _, _, _, _, _, _, _, _, _, _, _, rfl, ⟨HJ.out.ext.trans HW.out, ?_, ?_, hn8, ?_, HJ.out.hgl, ⟨_, HW.out.blk HJ.out.arr0.choose_spec⟩⟩, rfl⟩
      · simp only [List.length_append, List.length_cons]; omega
      · rw [HJ.out.e]; simp
      · rw [cH_snoc]; exact hnd
      · exact HW.out.blk HJ.out.arr
    · rw [hnx] at hcn
      rcases nx_split n B0 [] with ⟨C, nd, D, rfl, hC, hnd, hnx0⟩ | ⟨hlow0, hnx0⟩
      · rw [List.append_nil] at hnx0
        rw [hnx0] at hcn
        unfold ptr at hcn
        have hnode := HSW.out.sk.node (A0 ++ C) nd D (by rw [hL]; simp)
        have k0 : wr.cell? ⟨nd.b, 0, none⟩ = some (.slice nd.h.A nd.h.n nd.h.c) := by rw [cell_at hnode]; rfl
        have k1 : wr.cell? ⟨nd.b, 1, none⟩ = some (.int .i64 nd.x.seq) := by rw [cell_at hnode]; rfl
        have k2 : wr.cell? ⟨nd.b, 2, none⟩ = some (.int .i64 nd.x.kind) := by rw [cell_at hnode]; rfl
        have k3 : wr.cell? ⟨nd.b, 3, none⟩ = some (.slice nd.h.B nd.h.m nd.h.d) := by rw [cell_at hnode]; rfl
        have eg := EG.out
        clear hnode
        have hp : P nd.x = false := HB.out nd (by simp)
        have HP := Lib.hid hp
        clear hp
        go_wp2_with fail
        refine (HCALL.out wr nd HJ.out.ext (by rw [hL]; simp)).mono ?_
        rintro e w' ⟨rfl, hw'⟩
        rw [HP.out]
        have HW := Lib.hid hw'
        have ha1 := HW.out.blk HJ.out.arr
        have a1 : w'.cell? ⟨w.heap.size + 1, n, none⟩ = some (laF h A0 (n + 1) n) := by rw [cell_at ha1, arr8_get n hn8]
        have a2 : w'.frozen? ⟨w.heap.size + 1, n, none⟩ = false := frozen_at ha1
        clear hw' k0 k1 k2 k3 hcn
        have a3 : w'.frozen? ⟨w.heap.size, 0, none⟩ = false := frozen_at (HW.out.blk HJ.out.arr0.choose_spec)
        clear a3
        have hlst : lst h n A0 = cb h A := by rw [HJ.out.e]; exact lst_eq HJ.out.ht_ hlow
        obtain ⟨W1, hW1⟩ : ∃ W1, W1 = w'.setCell ⟨w.heap.size + 1, n, none⟩ (.pointer (some ⟨cb h A, 0, none⟩)) := ⟨_, rfl⟩
        have hx1 : Ext w W1 := by rw [hW1]; exact (HJ.out.ext.trans HW.out).setCell (Nat.le_succ _) _
        have har : W1.heap[w.heap.size + 1]? = some (arObj (laF h A0 n)) := by
          rw [hW1, ar_set ha1]
          refine congrArg (fun z => some (Obj.cells z 73 (0, 0))) (arr8_congr fun j hj => ?_)
          show (if j = n then _ else _) = _
          unfold laF
          by_cases e : j = n
          · rw [if_pos e, if_pos (by omega), e, hlst]; rfl
          · rw [if_neg e]
            by_cases e2 : n + 1 ≤ j
            · rw [if_pos e2, if_pos (by omega)]
            · rw [if_neg e2, if_neg (by omega)]
        have har0 : ∃ f, W1.heap[w.heap.size]? = some (arObj f) := by
          obtain ⟨f, hf⟩ := HJ.out.arr0
          exact ⟨f, by rw [hW1]; exact (Below.heap_setCell _ _ _ _ (by simp)).trans (HW.out.blk hf)⟩
        have HX1 := Lib.hid hx1
        have HAR := Lib.hid har
        have HAR0 := Lib.hid har0
        have HLST := Lib.hid hlst
        clear hx1 har har0 hlst
        by_cases hn1 : 0 < n
        · obtain ⟨k, rfl⟩ : ∃ k, n = k + 1 := ⟨n - 1, by omega⟩
          go_wp2
          rw [← hW1]
          go_step3
          refine ⟨rfl, k * (A0.length + 1) + A2.length, ?_, A, A2, k, _, _, _, _, _, _, _, _, _, _, _, _, _, _, _, _, _, _, _, _, _, _, _, _, _, _, _, _, _, _, _, _, _, _, _, rfl, ⟨HX1.out, HJ.out.e, Nat.lt_trans (Nat.lt_succ_self k) HJ.out.ht_, by omega, HAR.out, HJ.out.hgl, HAR0.out⟩, rfl⟩
          rw [Nat.add_mul]; omega
        · obtain rfl : n = 0 := by omega
          go_wp2
          rw [← hW1]
          have hA2 : A2 = [] := by
            cases A2 with
            | nil => rfl
            | cons c _ => have := hlow c (by simp); have := (htH_le c.x.key c.x.seq).1; unfold ht at *; omega
          have hAA : A0 = A := by rw [HJ.out.e, hA2, List.append_nil]
          obtain ⟨q1, q2, q3, q4, hnd4, _⟩ := (HS.out.ext HX1.out).sk.at_ (A := A) (S := C ++ nd :: D) (by rw [hL, hAA])
          have hbs : cb h A < w.heap.size := by
            obtain ⟨_, _, _, _, hh, _⟩ := HS.out.sk.at_ (A := A) (S := C ++ nd :: D) (by rw [hL, hAA])
            exact (Array.getElem?_eq_some_iff.1 hh).1
          have c4 : W1.cell? ⟨cb h A, 4, none⟩ = some (nx 0 (C ++ nd :: D)) := by
            rw [cell_at hnd4]
            have := ndCells_get (a := q1) (b := q2) (c := q3) (d := q4) (f := nxs (cH A) (C ++ nd :: D)) 0 (by decide)
            rw [this, nxs, if_pos HJ.out.ht_]
          obtain ⟨f, hf⟩ := HAR0.out
          have l0 : W1.cell? ⟨w.heap.size + 1, 0, none⟩ = some (.pointer (some ⟨lst h 0 A0, 0, none⟩)) := by rw [cell_at HAR.out]; rfl
          have l1 : W1.cell? ⟨w.heap.size + 1, 1, none⟩ = some (.pointer (some ⟨lst h 1 A0, 0, none⟩)) := by rw [cell_at HAR.out]; rfl
          have l2 : W1.cell? ⟨w.heap.size + 1, 2, none⟩ = some (.pointer (some ⟨lst h 2 A0, 0, none⟩)) := by rw [cell_at HAR.out]; rfl
          have l3 : W1.cell? ⟨w.heap.size + 1, 3, none⟩ = some (.pointer (some ⟨lst h 3 A0, 0, none⟩)) := by rw [cell_at HAR.out]; rfl
          have l4 : W1.cell? ⟨w.heap.size + 1, 4, none⟩ = some (.pointer (some ⟨lst h 4 A0, 0, none⟩)) := by rw [cell_at HAR.out]; rfl
          have l5 : W1.cell? ⟨w.heap.size + 1, 5, none⟩ = some (.pointer (some ⟨lst h 5 A0, 0, none⟩)) := by rw [cell_at HAR.out]; rfl
          have l6 : W1.cell? ⟨w.heap.size + 1, 6, none⟩ = some (.pointer (some ⟨lst h 6 A0, 0, none⟩)) := by rw [cell_at HAR.out]; rfl
          have l7 : W1.cell? ⟨w.heap.size + 1, 7, none⟩ = some (.pointer (some ⟨lst h 7 A0, 0, none⟩)) := by rw [cell_at HAR.out]; rfl
          have m0 : W1.cell? ⟨w.heap.size, 0, none⟩ = some (f 0) := by rw [cell_at hf]; rfl
          have f0 : W1.frozen? ⟨w.heap.size, 0, none⟩ = false := frozen_at hf
          have m1 : W1.cell? ⟨w.heap.size, 1, none⟩ = some (f 1) := by rw [cell_at hf]; rfl
          have f1 : W1.frozen? ⟨w.heap.size, 1, none⟩ = false := frozen_at hf
          have m2 : W1.cell? ⟨w.heap.size, 2, none⟩ = some (f 2) := by rw [cell_at hf]; rfl
          have f2 : W1.frozen? ⟨w.heap.size, 2, none⟩ = false := frozen_at hf
          have m3 : W1.cell? ⟨w.heap.size, 3, none⟩ = some (f 3) := by rw [cell_at hf]; rfl
          have f3 : W1.frozen? ⟨w.heap.size, 3, none⟩ = false := frozen_at hf
          have m4 : W1.cell? ⟨w.heap.size, 4, none⟩ = some (f 4) := by rw [cell_at hf]; rfl
          have f4 : W1.frozen? ⟨w.heap.size, 4, none⟩ = false := frozen_at hf
          have m5 : W1.cell? ⟨w.heap.size, 5, none⟩ = some (f 5) := by rw [cell_at hf]; rfl
          have f5 : W1.frozen? ⟨w.heap.size, 5, none⟩ = false := frozen_at hf
          have m6 : W1.cell? ⟨w.heap.size, 6, none⟩ = some (f 6) := by rw [cell_at hf]; rfl
          have f6 : W1.frozen? ⟨w.heap.size, 6, none⟩ = false := frozen_at hf
          have m7 : W1.cell? ⟨w.heap.size, 7, none⟩ = some (f 7) := by rw [cell_at hf]; rfl
          have f7 : W1.frozen? ⟨w.heap.size, 7, none⟩ = false := frozen_at hf
          have hne : ¬ cb h A = w.heap.size := by omega
          have hx1 := HX1.out
          clear hW1 hf hnd4 hA2 hAA hlow
          go_region
          all_goals
            go_wp2
            simp only [Exit.jump]
            refine bodyPost_ret (v := .tuple #[.agg #[.pointer (some ⟨lst h 0 A0, 0, none⟩), .pointer (some ⟨lst h 1 A0, 0, none⟩), .pointer (some ⟨lst h 2 A0, 0, none⟩), .pointer (some ⟨lst h 3 A0, 0, none⟩), .pointer (some ⟨lst h 4 A0, 0, none⟩), .pointer (some ⟨lst h 5 A0, 0, none⟩), .pointer (some ⟨lst h 6 A0, 0, none⟩), .pointer (some ⟨lst h 7 A0, 0, none⟩)], nx 0 (C ++ nd :: D)]) ?_ rfl ?_
            · simp [results, Try.f43, go_sem, m0, m1, m2, m3, m4, m5, m6, m7, arr8, ptr, hnx0]
            · exact ⟨rfl, (by with_reducible (repeat (first | exact Ext.rfl_ _ | assumption | refine Ext.drew ?_ | refine Ext.drewN ?_ _ | refine Ext.alloc ?_ _ | refine Ext.setCell ?_ (by first | (simp; done) | (simp; omega)) _ | refine Ext.trans ?_ (by assumption))))⟩
      · rw [List.append_nil] at hnx0
        rw [hnx0, nx] at hcn
        rw [nx] at hnx0
        have HW : Hid (Ext wr wr) := Lib.hid (Ext.rfl_ wr)
        have ha1 := HW.out.blk HJ.out.arr
        have a1 : wr.cell? ⟨w.heap.size + 1, n, none⟩ = some (laF h A0 (n + 1) n) := by rw [cell_at ha1, arr8_get n hn8]
        have a2 : wr.frozen? ⟨w.heap.size + 1, n, none⟩ = false := frozen_at ha1
        clear hlow0
        have a3 : wr.frozen? ⟨w.heap.size, 0, none⟩ = false := frozen_at (HW.out.blk HJ.out.arr0.choose_spec)
        clear a3
        have hlst : lst h n A0 = cb h A := by rw [HJ.out.e]; exact lst_eq HJ.out.ht_ hlow
        obtain ⟨W1, hW1⟩ : ∃ W1, W1 = wr.setCell ⟨w.heap.size + 1, n, none⟩ (.pointer (some ⟨cb h A, 0, none⟩)) := ⟨_, rfl⟩
        have hx1 : Ext w W1 := by rw [hW1]; exact (HJ.out.ext.trans HW.out).setCell (Nat.le_succ _) _
        have har : W1.heap[w.heap.size + 1]? = some (arObj (laF h A0 n)) := by
          rw [hW1, ar_set ha1]
          refine congrArg (fun z => some (Obj.cells z 73 (0, 0))) (arr8_congr fun j hj => ?_)
          show (if j = n then _ else _) = _
          unfold laF
          by_cases e : j = n
          · rw [if_pos e, if_pos (by omega), e, hlst]; rfl
          · rw [if_neg e]
            by_cases e2 : n + 1 ≤ j
            · rw [if_pos e2, if_pos (by omega)]
            · rw [if_neg e2, if_neg (by omega)]
        have har0 : ∃ f, W1.heap[w.heap.size]? = some (arObj f) := by
          obtain ⟨f, hf⟩ := HJ.out.arr0
          exact ⟨f, by rw [hW1]; exact (Below.heap_setCell _ _ _ _ (by simp)).trans (HW.out.blk hf)⟩
        have HX1 := Lib.hid hx1
        have HAR := Lib.hid har
        have HAR0 := Lib.hid har0
        have HLST := Lib.hid hlst
        clear hx1 har har0 hlst
        by_cases hn1 : 0 < n
        · obtain ⟨k, rfl⟩ : ∃ k, n = k + 1 := ⟨n - 1, by omega⟩
          go_wp2
          rw [← hW1]
          go_step3
          refine ⟨rfl, k * (A0.length + 1) + A2.length, ?_, A, A2, k, _, _, _, _, _, _, _, _, _, _, _, _, _, _, _, _, _, _, _, _, _, _, _, _, _, _, _, _, _, _, _, _, _, _, _, rfl, ⟨HX1.out, HJ.out.e, Nat.lt_trans (Nat.lt_succ_self k) HJ.out.ht_, by omega, HAR.out, HJ.out.hgl, HAR0.out⟩, rfl⟩
          rw [Nat.add_mul]; omega
        · obtain rfl : n = 0 := by omega
          go_wp2
          rw [← hW1]
          have hA2 : A2 = [] := by
            cases A2 with
            | nil => rfl
            | cons c _ => have := hlow c (by simp); have := (htH_le c.x.key c.x.seq).1; unfold ht at *; omega
          have hAA : A0 = A := by rw [HJ.out.e, hA2, List.append_nil]
          obtain ⟨q1, q2, q3, q4, hnd4, _⟩ := (HS.out.ext HX1.out).sk.at_ (A := A) (S := B0) (by rw [hL, hAA])
          have hbs : cb h A < w.heap.size := by
            obtain ⟨_, _, _, _, hh, _⟩ := HS.out.sk.at_ (A := A) (S := B0) (by rw [hL, hAA])
            exact (Array.getElem?_eq_some_iff.1 hh).1
          have c4 : W1.cell? ⟨cb h A, 4, none⟩ = some (nx 0 (B0)) := by
            rw [cell_at hnd4]
            have := ndCells_get (a := q1) (b := q2) (c := q3) (d := q4) (f := nxs (cH A) (B0)) 0 (by decide)
            rw [this, nxs, if_pos HJ.out.ht_]
          obtain ⟨f, hf⟩ := HAR0.out
          have l0 : W1.cell? ⟨w.heap.size + 1, 0, none⟩ = some (.pointer (some ⟨lst h 0 A0, 0, none⟩)) := by rw [cell_at HAR.out]; rfl
          have l1 : W1.cell? ⟨w.heap.size + 1, 1, none⟩ = some (.pointer (some ⟨lst h 1 A0, 0, none⟩)) := by rw [cell_at HAR.out]; rfl
          have l2 : W1.cell? ⟨w.heap.size + 1, 2, none⟩ = some (.pointer (some ⟨lst h 2 A0, 0, none⟩)) := by rw [cell_at HAR.out]; rfl
          have l3 : W1.cell? ⟨w.heap.size + 1, 3, none⟩ = some (.pointer (some ⟨lst h 3 A0, 0, none⟩)) := by rw [cell_at HAR.out]; rfl
          have l4 : W1.cell? ⟨w.heap.size + 1, 4, none⟩ = some (.pointer (some ⟨lst h 4 A0, 0, none⟩)) := by rw [cell_at HAR.out]; rfl
          have l5 : W1.cell? ⟨w.heap.size + 1, 5, none⟩ = some (.pointer (some ⟨lst h 5 A0, 0, none⟩)) := by rw [cell_at HAR.out]; rfl
          have l6 : W1.cell? ⟨w.heap.size + 1, 6, none⟩ = some (.pointer (some ⟨lst h 6 A0, 0, none⟩)) := by rw [cell_at HAR.out]; rfl
          have l7 : W1.cell? ⟨w.heap.size + 1, 7, none⟩ = some (.pointer (some ⟨lst h 7 A0, 0, none⟩)) := by rw [cell_at HAR.out]; rfl
          have m0 : W1.cell? ⟨w.heap.size, 0, none⟩ = some (f 0) := by rw [cell_at hf]; rfl
          have f0 : W1.frozen? ⟨w.heap.size, 0, none⟩ = false := frozen_at hf
          have m1 : W1.cell? ⟨w.heap.size, 1, none⟩ = some (f 1) := by rw [cell_at hf]; rfl
          have f1 : W1.frozen? ⟨w.heap.size, 1, none⟩ = false := frozen_at hf
          have m2 : W1.cell? ⟨w.heap.size, 2, none⟩ = some (f 2) := by rw [cell_at hf]; rfl
          have f2 : W1.frozen? ⟨w.heap.size, 2, none⟩ = false := frozen_at hf
          have m3 : W1.cell? ⟨w.heap.size, 3, none⟩ = some (f 3) := by rw [cell_at hf]; rfl
          have f3 : W1.frozen? ⟨w.heap.size, 3, none⟩ = false := frozen_at hf
          have m4 : W1.cell? ⟨w.heap.size, 4, none⟩ = some (f 4) := by rw [cell_at hf]; rfl
          have f4 : W1.frozen? ⟨w.heap.size, 4, none⟩ = false := frozen_at hf
          have m5 : W1.cell? ⟨w.heap.size, 5, none⟩ = some (f 5) := by rw [cell_at hf]; rfl
          have f5 : W1.frozen? ⟨w.heap.size, 5, none⟩ = false := frozen_at hf
          have m6 : W1.cell? ⟨w.heap.size, 6, none⟩ = some (f 6) := by rw [cell_at hf]; rfl
          have f6 : W1.frozen? ⟨w.heap.size, 6, none⟩ = false := frozen_at hf
          have m7 : W1.cell? ⟨w.heap.size, 7, none⟩ = some (f 7) := by rw [cell_at hf]; rfl
          have f7 : W1.frozen? ⟨w.heap.size, 7, none⟩ = false := frozen_at hf
          have hne : ¬ cb h A = w.heap.size := by omega
          have hx1 := HX1.out
          clear hW1 hf hnd4 hA2 hAA hlow
          go_region
          all_goals
            go_wp2
            simp only [Exit.jump]
            refine bodyPost_ret (v := .tuple #[.agg #[.pointer (some ⟨lst h 0 A0, 0, none⟩), .pointer (some ⟨lst h 1 A0, 0, none⟩), .pointer (some ⟨lst h 2 A0, 0, none⟩), .pointer (some ⟨lst h 3 A0, 0, none⟩), .pointer (some ⟨lst h 4 A0, 0, none⟩), .pointer (some ⟨lst h 5 A0, 0, none⟩), .pointer (some ⟨lst h 6 A0, 0, none⟩), .pointer (some ⟨lst h 7 A0, 0, none⟩)], nx 0 (B0)]) ?_ rfl ?_
            · simp [results, Try.f43, go_sem, m0, m1, m2, m3, m4, m5, m6, m7, arr8, ptr, hnx0]
            · exact ⟨rfl, (by with_reducible (repeat (first | exact Ext.rfl_ _ | assumption | refine Ext.drew ?_ | refine Ext.drewN ?_ _ | refine Ext.alloc ?_ _ | refine Ext.setCell ?_ (by first | (simp; done) | (simp; omega)) _ | refine Ext.trans ?_ (by assumption))))⟩

end Go.Proofs.Ytddaagldelcbeaa
