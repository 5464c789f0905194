/- Contract of block.open: the entries whose block the bytes are, and where the restarts' ones begin; or none. Conditions: the slice reads. -/
import Derived.Test.YthfhococglbpoaaBlkF
namespace Go.Proofs.Ythfhococglbpoaa
set_option linter.unusedSimpArgs false
set_option linter.unusedVariables false
open Go.RowKit

theorem un4_lt (x : Bs) : un4 x < 4294967296 := by
  unfold un4
  split
  · rename_i a b c d
    have := u8lt a
    have := u8lt b
    have := u8lt c
    have := u8lt d
    omega
  · omega
noncomputable def opE (b : Bs) : List Ent := (blkR b).getD []
noncomputable def opN (b : Bs) : Int := if (blkR b).isSome then 0 else 4
theorem op_no {b : Bs} (h : ∀ l, ¬ IsBlk b l) : opE b = [] ∧ opN b = 4 := by unfold opE opN; rw [blkR_none h]; exact ⟨rfl, rfl⟩
theorem op_yes {b : Bs} {l : List Ent} (h : IsBlk b l) : opE b = l ∧ opN b = 0 := by unfold opE opN; rw [blkR_some h]; exact ⟨rfl, rfl⟩
def posI (xs : List Ent) : List Int := (posB xs).map Int.ofNat

/-- The three results' cells. -/
def R3 (S : Nat) (w : World) (vl va : Value) (e : Int) : Prop :=
  w.heap[S]? = some (.cells #[vl] 37 (0, 0)) ∧ w.heap[S + 1]? = some (.cells #[va] 38 (0, 0)) ∧ w.heap[S + 1 + 1]? = some (.cells #[.int .i64 e] 29 (0, 0))
theorem R3.kx {T : TypeId} {S : Nat} {w w' : World} {vl va : Value} {e : Int} (h : R3 S w vl va e) (k : Kx T w w') (h1 : 37 ≠ T) (h2 : 38 ≠ T) (h3 : 29 ≠ T) : R3 S w' vl va e :=
  ⟨k _ h1 _ _ _ h.1, k _ h2 _ _ _ h.2.1, k _ h3 _ _ _ h.2.2⟩
theorem R3.ext {S : Nat} {w w' : World} {vl va : Value} {e : Int} (h : R3 S w vl va e) (k : Ext w w') : R3 S w' vl va e := ⟨k.blk h.1, k.blk h.2.1, k.blk h.2.2⟩
theorem R3.cells {S : Nat} {w : World} {vl va : Value} {e : Int} (h : R3 S w vl va e) : w.cell? ⟨S, 0, none⟩ = some vl ∧ w.cell? ⟨S + 1, 0, none⟩ = some va ∧ w.cell? ⟨S + 1 + 1, 0, none⟩ = some (.int .i64 e) ∧ w.frozen? ⟨S, 0, none⟩ = false ∧ w.frozen? ⟨S + 1, 0, none⟩ = false ∧ w.frozen? ⟨S + 1 + 1, 0, none⟩ = false ∧ S + 1 + 1 < w.heap.size := by
  obtain ⟨h1, h2, h3⟩ := h
  exact ⟨by simp [World.cell?, h1], by simp [World.cell?, h2], by simp [World.cell?, h3], by simp [World.frozen?, h1], by simp [World.frozen?, h2], by simp [World.frozen?, h3], (Array.getElem?_eq_some_iff.1 h3).1⟩

theorem R3.set {S : Nat} {w : World} {vl va : Value} {e : Int} (h : R3 S w vl va e) (u1 u2 : Value) (u3 : Int) : R3 S (((w.setCell ⟨S, 0, none⟩ u1).setCell ⟨S + 1, 0, none⟩ u2).setCell ⟨S + 1 + 1, 0, none⟩ (.int .i64 u3)) u1 u2 u3 := by
  obtain ⟨h1, h2, h3⟩ := h
  have n1 : ¬ S + 1 + 1 = S := by omega
  have n2 : ¬ S = S + 1 + 1 := by omega
  refine ⟨?_, ?_, ?_⟩
  · simp [World.setCell, Array.getElem?_modify, h1, n1]
  · simp [World.setCell, Array.getElem?_modify, h2]
  · simp [World.setCell, Array.getElem?_modify, h3, n2]
theorem r3_new (w : World) : R3 w.heap.size (((w.alloc (.cells #[.slice none 0 0] 37)).alloc (.cells #[.slice none 0 0] 38)).alloc (.cells #[.int .i64 0] 29)) (.slice none 0 0) (.slice none 0 0) 0 := by
  have h1 := blk1 w (.cells #[.slice none 0 0] 37)
  have h2 := blk1 (w.alloc (.cells #[.slice none 0 0] 37)) (.cells #[.slice none 0 0] 38)
  have h3 := blk1 ((w.alloc (.cells #[.slice none 0 0] 37)).alloc (.cells #[.slice none 0 0] 38)) (.cells #[.int .i64 0] 29)
  have e1 : Ext (w.alloc (.cells #[.slice none 0 0] 37)) (((w.alloc (.cells #[.slice none 0 0] 37)).alloc (.cells #[.slice none 0 0] 38)).alloc (.cells #[.int .i64 0] 29)) := ((Ext.rfl_ _).alloc _).alloc _
  have e2 : Ext ((w.alloc (.cells #[.slice none 0 0] 37)).alloc (.cells #[.slice none 0 0] 38)) (((w.alloc (.cells #[.slice none 0 0] 37)).alloc (.cells #[.slice none 0 0] 38)).alloc (.cells #[.int .i64 0] 29)) := (Ext.rfl_ _).alloc _
  have k2 := e2.blk h2
  rw [World.size_alloc] at k2
  rw [World.size_alloc, World.size_alloc] at h3
  exact ⟨e1.blk h1, k2, h3⟩
/-- What open answers. -/
def OpenPost (w : World) (b : Bs) (e : Ending) (w' : World) : Prop :=
  ∃ vl va, e = .returned (.tuple #[vl, va, .int .i64 (opN b)]) ∧ OwnF w' w.heap.size vl (opE b) ∧ OwnI w' w.heap.size va (posI (opE b)) ∧ Ext w w'

set_option maxRecDepth 100000 in
theorem door_bad {w w1 : World} {b : Bs} {tm : Array Value} {vl va : Value} {e : Int} (h3 : R3 w.heap.size w1 vl va e) (hX : Ext w w1) (hbad : ∀ l, ¬ IsBlk b l)
    (t2 : tm[2]?.getD undef = .pointer (some ⟨w.heap.size, 0, none⟩)) (t3 : tm[3]?.getD undef = .pointer (some ⟨w.heap.size + 1, 0, none⟩)) (t4 : tm[4]?.getD undef = .pointer (some ⟨w.heap.size + 1 + 1, 0, none⟩)) :
    bodyPostD Try.prog Try.f31 (OpenPost w b) (Exit.panic [{ v := .iface 87 (.agg #[]), recovered := false }])
      { tmps := tm, defers := [{ target := .fn (.func 55) #[.pointer (some ⟨w.heap.size, 0, none⟩), .pointer (some ⟨w.heap.size + 1, 0, none⟩), .pointer (some ⟨w.heap.size + 1 + 1, 0, none⟩)], args := #[] }] } w1 := by
  obtain ⟨c1, c2, c3, f1, f2, f3, hs⟩ := h3.cells
  refine leaves_cons (f := 55) (args := #[.pointer (some ⟨w.heap.size, 0, none⟩), .pointer (some ⟨w.heap.size + 1, 0, none⟩), .pointer (some ⟨w.heap.size + 1 + 1, 0, none⟩)]) (by simp) (by simp [go_sem]) ?_
  refine (catch_panic _ _ _ _ _ _ _ c1 c2 c3 f1 f2 f3 (by omega) (by omega) (by omega) (by omega) (by omega) (by omega)).mono ?_
  rintro e' u' w'' ⟨rfl, rfl, rfl⟩
  obtain ⟨o1, o2⟩ := op_no hbad
  have hp : posI (opE b) = [] := by rw [o1]; rfl
  obtain ⟨wf, hwf⟩ : ∃ wf, wf = (((w1.setCell ⟨w.heap.size, 0, none⟩ (.slice none 0 0)).setCell ⟨w.heap.size + 1, 0, none⟩ (.slice none 0 0)).setCell ⟨w.heap.size + 1 + 1, 0, none⟩ (.int .i64 4)).alloc (.cells #[] 87) := ⟨_, rfl⟩
  have hR : R3 w.heap.size wf (.slice none 0 0) (.slice none 0 0) 4 := by rw [hwf]; exact (h3.set _ _ _).ext (Ext.alloc (Ext.rfl_ _) _)
  have hXf : Ext w wf := by rw [hwf]; exact (((hX.setCell (p := ⟨w.heap.size, 0, none⟩) (Nat.le_refl _) _).setCell (p := ⟨w.heap.size + 1, 0, none⟩) (by simp) _).setCell (p := ⟨w.heap.size + 1 + 1, 0, none⟩) (by simp; omega) _).alloc _
  rw [← hwf]
  obtain ⟨k1, k2, k3, _⟩ := hR.cells
  simp [Leaves, settle, results, Try.results31, Try.f31, go_sem, t2, t3, t4, k1, k2, k3]
  exact ⟨_, _, by rw [o2], by rw [o1]; exact OwnF.nil _ _, by rw [hp]; exact OwnI.nil _ _, hXf⟩

set_option maxRecDepth 100000 in
theorem door_good {w w1 : World} {b : Bs} {l : List Ent} {tm : Array Value} {vl va : Value} (h3 : R3 w.heap.size w1 vl va 0) (hX : Ext w w1) (hl : IsBlk b l) (hF : OwnF w1 w.heap.size vl l) (hI : OwnI w1 w.heap.size va (posI l))
    (t2 : tm[2]?.getD undef = .pointer (some ⟨w.heap.size, 0, none⟩)) (t3 : tm[3]?.getD undef = .pointer (some ⟨w.heap.size + 1, 0, none⟩)) (t4 : tm[4]?.getD undef = .pointer (some ⟨w.heap.size + 1 + 1, 0, none⟩)) :
    bodyPostD Try.prog Try.f31 (OpenPost w b) Exit.ret
      { tmps := tm, defers := [{ target := .fn (.func 55) #[.pointer (some ⟨w.heap.size, 0, none⟩), .pointer (some ⟨w.heap.size + 1, 0, none⟩), .pointer (some ⟨w.heap.size + 1 + 1, 0, none⟩)], args := #[] }] } w1 := by
  refine leaves_cons (f := 55) (args := #[.pointer (some ⟨w.heap.size, 0, none⟩), .pointer (some ⟨w.heap.size + 1, 0, none⟩), .pointer (some ⟨w.heap.size + 1 + 1, 0, none⟩)]) (by simp) (by simp [go_sem]) ?_
  refine (catch_idle _ _ _ _).mono ?_
  rintro e' u' w'' ⟨rfl, rfl, rfl⟩
  obtain ⟨o1, o2⟩ := op_yes hl
  obtain ⟨wf, hwf⟩ : ∃ wf, wf = w1.alloc (.cells #[] 87) := ⟨_, rfl⟩
  have e1 : Ext w1 wf := by rw [hwf]; exact (Ext.rfl_ _).alloc _
  rw [← hwf]
  obtain ⟨k1, k2, k3, _⟩ := (h3.ext e1).cells
  simp [Leaves, settle, results, Try.results31, Try.f31, go_sem, t2, t3, t4, k1, k2, k3]
  exact ⟨_, _, by rw [o2], by rw [o1]; exact hF.ext e1, by rw [o1]; exact hI.ext e1, hX.trans e1⟩

theorem setSame {w : World} {g : Nat} {v : Value} {t : TypeId} {fr : Nat × Nat} (h : w.heap[g]? = some (.cells #[v] t fr)) : w.setCell ⟨g, 0, none⟩ v = w := by
  have hh : (w.setCell ⟨g, 0, none⟩ v).heap = w.heap := by
    apply Array.ext_getElem?
    intro i
    simp only [World.setCell, Array.getElem?_modify]
    by_cases hi : g = i
    · subst hi; simp [h]
    · simp [hi]
  unfold World.setCell at *
  simp only at hh
  rw [hh]
theorem R3.set1 {S : Nat} {w : World} {vl va : Value} {e : Int} (h : R3 S w vl va e) (u : Value) : R3 S (w.setCell ⟨S, 0, none⟩ u) u va e := by
  obtain ⟨h1, h2, h3⟩ := h
  have n2 : ¬ S = S + 1 + 1 := by omega
  refine ⟨?_, ?_, ?_⟩
  · simp [World.setCell, Array.getElem?_modify, h1]
  · simp [World.setCell, Array.getElem?_modify, h2]
  · simp [World.setCell, Array.getElem?_modify, h3, n2]
theorem R3.set2 {S : Nat} {w : World} {vl va : Value} {e : Int} (h : R3 S w vl va e) (u : Value) : R3 S (w.setCell ⟨S + 1, 0, none⟩ u) vl u e := by
  obtain ⟨h1, h2, h3⟩ := h
  refine ⟨?_, ?_, ?_⟩
  · simp [World.setCell, Array.getElem?_modify, h1]
  · simp [World.setCell, Array.getElem?_modify, h2]
  · simp [World.setCell, Array.getElem?_modify, h3]
theorem leaves_tm {P : Program} {fn : Func} {R : Ending → World → Prop} {tm tm' : Array Value} (h : results fn tm = results fn tm') : ∀ (ds : List Deferred) (u : FrameMode) (w : World), Leaves P fn tm R ds u w → Leaves P fn tm' R ds u w := by
  intro ds
  induction ds with
  | nil =>
    intro u w hl
    cases u with
    | run => exact hl
    | returning => obtain ⟨v, h1, h2⟩ := hl; exact ⟨v, h ▸ h1, h2⟩
    | panicking chain => exact hl
  | cons d ds ih =>
    intro u w hl
    obtain ⟨hr, fv, cap, f, args, h1, h2, h3⟩ := hl
    refine ⟨hr, fv, cap, f, args, h1, h2, h3.mono ?_⟩
    intro e u' w' hp
    cases e with
    | returned v => exact ih _ _ hp
    | panicked c => exact ih _ _ hp
    | outgrown => exact hp
/-- A panic's way out of open does not look at other slots. -/
theorem openQ {R : Ending → World → Prop} {c : List PanicEntry} {a : Act} {d : Tmp} {v : Value} {w : World} (h2 : d ≠ 2) (h3 : d ≠ 3) (h4 : d ≠ 4) (h : bodyPostD Try.prog Try.f31 R (.panic c) (a.put (some d) v) w) : bodyPostD Try.prog Try.f31 R (.panic c) a w := by
  refine leaves_tm (tm := (a.put (some d) v).tmps) ?_ a.defers (.panicking c) w h
  simp [results, Try.results31, Try.f31, Act.put, Array.getElem?_setIfInBounds, h2, h3, h4]

theorem frE_cells {w : World} {base : Nat} {v : Value} {x : Ent} (h : FrE w base v x) : ∃ A n c B m d, v = .agg #[.slice A n c, .int .i64 x.seq, .int .i64 x.kind, .slice B m d] ∧ FrE w base (.agg (cellsE ⟨A, n, c, B, m, d⟩ x).toArray) x := by
  have h' := h
  obtain ⟨A, n, c, B, m, d, rfl, _⟩ := h
  exact ⟨A, n, c, B, m, d, rfl, h'⟩
theorem OwnF.last {w : World} {base : Nat} {v : Value} {xs : List Ent} {y : Ent} (h : OwnF w base v (xs ++ [y])) : ∃ G c A n cc, v = .slice (some ⟨G, 0, none⟩) (xs.length + 1) c ∧ xs.length + 1 ≤ c ∧ w.cell? ⟨G, xs.length * 4, none⟩ = some (.slice A n cc) ∧ OwnB w base (.slice A n cc) y.key := by
  obtain ⟨hs, hl, ho, hr⟩ := h
  have hln : (xs ++ [y]).length = xs.length + 1 := by simp
  rcases ho.2 with ⟨_, h0⟩ | ⟨g, cap, cur, rfl, hb, hg, hle, _⟩
  · omega
  · have hk : xs.length < hs.length := by omega
    have hf := hr xs.length hk (by omega)
    have hy : (xs ++ [y])[xs.length]'(by omega) = y := by simp
    rw [hy] at hf
    obtain ⟨A, n, c, A', n', c', hv, o1, _⟩ := hf
    have hc := World.ownsRow.cellAt ho (xs.length * 4 + 0) (by omega)
    rw [rowE_get hl xs.length (by omega) 0 (by omega), hy] at hc
    simp [cellsE] at hv hc
    obtain ⟨⟨e1, e2, e3⟩, _⟩ := hv
    rw [hln] at hle
    exact ⟨g, cap, hs[xs.length].A, hs[xs.length].n, hs[xs.length].c, by rw [hln], hle, hc, by rw [e1, e2, e3]; exact o1⟩

/-- What stands in a round of open. -/
def OpI (w : World) (b : Bs) (g : Nat) (xs : List Ent) (rest : Bs) (ps : List Int) (vb vl va : Value) (wr : World) : Prop :=
  Ext w wr ∧ R3 w.heap.size wr vl va 0 ∧ OwnF wr w.heap.size vl xs ∧ OwnI wr w.heap.size va ps ∧ Rdr wr g rest ∧ OwnB wr w.heap.size vb (keyL [] xs) ∧ BodAt b xs rest ∧ (∀ l, IsBlk b l → ps = posI xs) ∧ xs.length ≤ 1024 ∧ ps.length ≤ xs.length ∧ (keyL [] xs).length ≤ 32 * xs.length
def sLen : Option Value → Nat
  | some (.slice _ n _) => n
  | _ => 0

set_option maxRecDepth 100000 in
set_option maxHeartbeats 4000000 in
theorem open_blk (A : Option Addr) (n c : Nat) (b : Bs) (w : World) (hx : Rd w A n b) (hnc : n ≤ c) (hn : n ≤ B40) :
    Calls Try.prog 31 #[.slice A n c] w (OpenPost w b) := by
  have hmf : ∀ (fn : Fn) (first cap : Array Value) (w : World), (Instr.makeFunc fn first cap).run Try.prog w = .ok (.func fn first cap) w := fun _ _ _ _ => rfl
  have HX := Lib.hid hx
  have hbl := hx.1
  unfold B40 at hn
  clear hx
  go_enter_defers Try.func31, Try.ntmps31
  by_cases n8 : 8 ≤ n
  · have n8i : (8 : Int) ≤ (n : Int) := by omega
    obtain ⟨bA, o, rfl, _⟩ := HX.out.at_ (by omega)
    have hx4 : Rd w (some ⟨bA, o + (n - 4), none⟩) 4 (b.drop (n - 4)) := by
      have := HX.out.tail (k := n - 4) (by omega)
      rwa [show n - (n - 4) = 4 by omega] at this
    have HX4 := Lib.hid hx4
    have hw4 : (b.drop (n - 4)).length = 4 := hx4.1
    clear hx4
    have m4 : wrap64 ((n : Int) - 4) = (n : Int) - 4 := w64 (by omega) (by omega)
    obtain ⟨N, hN⟩ : ∃ N, N = un4 (b.drop (n - 4)) := ⟨_, rfl⟩
    have HN := Lib.hid hN
    clear hN
    go_wp2_with (go_at_call 56; refine (ask_yes _).mono ?_; rintro e w' ⟨rfl, rfl⟩)
    rw [show n - (n - 4) = 4 by omega]
    refine (unword_any _ _ _ (b.drop (n - 4)) _ (HX4.out.ext (by with_reducible (repeat (first | exact Ext.rfl_ _ | assumption | refine Ext.drew ?_ | refine Ext.drewN ?_ _ | refine Ext.alloc ?_ _ | refine Ext.trans ?_ (by assumption))))) (by omega)).mono ?_
    rintro e w1 ⟨rfl, hw1⟩
    rw [← HN.out]
    have X1 : Ext w w1 := (by with_reducible (repeat (first | exact Ext.rfl_ _ | assumption | refine Ext.drew ?_ | refine Ext.drewN ?_ _ | refine Ext.alloc ?_ _ | refine Ext.trans ?_ (by assumption))))
    have HR1 := Lib.hid ((r3_new w).ext hw1)
    have hN32 : N < 4294967296 := by rw [HN.out]; exact un4_lt _
    have hpar : ∀ l, IsBlk b l → (posB l).length = N ∧ bodB l = b.take (n - 4 - 4 * N) := fun l hl => by
      have h1 := hl.parts.2.1
      have h2 := hl.parts.2.2.2.2.2
      rw [hbl] at h1 h2
      rw [HN.out, h1]
      exact ⟨rfl, h2.symm⟩
    have HPAR := Lib.hid hpar
    clear hpar hw1 HX4 hw4
    by_cases q1 : 1 ≤ N
    · have q1i : (1 : Int) ≤ (N : Int) := by omega
      by_cases q2 : N ≤ 1024
      · have q2i : (N : Int) ≤ 1024 := by omega
        by_cases q3 : 4 * N + 4 ≤ n
        · have q3i : 4 * (N : Int) + 4 ≤ (n : Int) := by omega
          have q3j : (4 * N + 4 : Nat) ≤ n := q3
          go_wp2_with (go_at_call 56; refine (ask_yes _).mono ?_; rintro e w' ⟨rfl, rfl⟩)
          obtain ⟨L, hL⟩ : ∃ L, L = n - 4 - 4 * N := ⟨_, rfl⟩
          rw [← hL]
          have hLn : L ≤ n := by omega
          have hbod : Rd w (some ⟨bA, o, none⟩) L (b.take L) := HX.out.pre hLn
          refine (open_any _ L c (b.take L) _ (hbod.ext X1) (by unfold B40; omega)).mono ?_
          rintro e w2 ⟨g, rfl, hg, hr2, hw2⟩
          have hg0 : w.heap.size ≤ g := Nat.le_trans (Ext.size X1) hg
          have hbl' : (b.take L).length = L := by rw [List.length_take]; omega
          have hP : ∀ l, IsBlk b l → bodB l = b.take L := fun l hl => by rw [hL]; exact (HPAR.out l hl).2
          have HP := Lib.hid hP
          have hI0 : OpI w b g [] (b.take L) [] (.slice none 0 0) (.slice none 0 0) (.slice none 0 0) w2 :=
            ⟨X1.trans hw2, HR1.out.ext hw2, OwnF.nil _ _, OwnI.nil _ _, hr2, OwnB.nil _ _, BodAt.start fun l hl => (hP l hl).symm, fun l hl => rfl, Nat.zero_le _, Nat.zero_le _, Nat.zero_le _⟩
          have HI0 := Lib.hid hI0
          clear hI0 hr2 hw2 hP hL hbod HR1 HPAR
          go_wp2_with fail
          go_loopw [8] (fun vb wr => ∃ xs rest ps vl va, OpI w b g xs rest ps vb vl va wr) (fun _ wr => 1025 - sLen (wr.cell? ⟨w.heap.size, 0, none⟩))
          case atStart => exact ⟨_, _, _, _, _, HI0.out⟩
          case round =>
            obtain ⟨xs, rest, ps, vl, va, hX, hR3, hF, hI, hR, hB, hBod, hPs, hx4, hp4, hk4⟩ := hrel
            have hrl : rest.length ≤ 1099511627776 := by
              obtain ⟨b', o', n', c', _, hrd, _, hn'⟩ := hR
              have := hrd.1.1
              unfold B40 at hn'
              omega
            obtain ⟨Al, cl, rfl, hcl, hrdl, hil, _⟩ := hF.ownL.form (by unfold B41; omega)
            obtain ⟨Aa, ca, rfl, _⟩ := own_form hI
            have HX1 := Lib.hid hX
            have HR3 := Lib.hid hR3
            have HF := Lib.hid hF
            have HI := Lib.hid hI
            have HR := Lib.hid hR
            have HB := Lib.hid hB
            have HBod := Lib.hid hBod
            have HPs := Lib.hid hPs
            obtain ⟨k1, k2, k3, f1, f2, f3, hsz⟩ := hR3.cells
            have HRDL := Lib.hid hrdl
            clear hX hR3 hF hI hR hB hBod hPs hrdl hil
            by_cases hre : rest = []
            · have hrz : rest.length = 0 := by rw [hre]; rfl
              go_wp2_with fail
              refine (left_any g rest _ HR.out).mono ?_
              rintro e w' ⟨rfl, rfl⟩
              rw [hrz]
              subst hre
              go_wp2_with fail
              refine (write_any Al _ cl xs _ HRDL.out hcl).mono ?_
              rintro e w3 ⟨v3, rfl, o3, hw3⟩
              by_cases hm : mayL xs = true
              · rw [if_pos hm] at o3
                rw [if_pos hm]
                obtain ⟨A3, n3, c3, rfl, l3, r3, i3⟩ := o3.formN
                have R33 := Lib.hid (HR3.out.ext hw3)
                have X3 := Lib.hid (HX1.out.trans hw3)
                have F3 := Lib.hid (HF.out.ext hw3)
                have I3 := Lib.hid (HI.out.ext hw3)
                have hbE := HX.out.ext X3.out
                have HRB := Lib.hid r3
                have HBE := Lib.hid hbE
                clear o3 r3 hbE i3 hw3
                by_cases hq : blkB xs = b
                · have hisb : IsBlk b xs := ⟨hm, hq⟩
                  have HIS := Lib.hid hisb
                  have hdq : decide (blkB xs = b) = true := decide_eq_true hq
                  go_wp2_with (first | (go_at_call 35; refine (bequal_any _ _ _ _ _ _ _ _ _ HRB.out HBE.out).mono ?_; rintro e w' ⟨rfl, rfl⟩; rw [hdq]) | (go_at_call 56; refine (ask_yes _).mono ?_; rintro e w' ⟨rfl, rfl⟩))
                  have R3d : R3 w.heap.size w3.drew (.slice Al xs.length cl) (.slice Aa ps.length ca) 0 := R33.out.ext ((Ext.rfl_ _).drew)
                  obtain ⟨k1, k2, k3, f1, f2, f3, hsz⟩ := R3d.cells
                  have s1 : w3.drew.setCell ⟨w.heap.size, 0, none⟩ (.slice Al xs.length cl) = w3.drew := setSame R3d.1
                  have s2 : w3.drew.setCell ⟨w.heap.size + 1, 0, none⟩ (.slice Aa ps.length ca) = w3.drew := setSame R3d.2.1
                  have s3 : w3.drew.setCell ⟨w.heap.size + 1 + 1, 0, none⟩ (.int .i64 0) = w3.drew := setSame R3d.2.2
                  refine wp_region_any (by kernel_rfl) ?_
                  (try (change wpAny _ _ _ _ _ _ _ (World.drew _)))
                  refine wpAny_ready (rs := [0, 1]) (by kernel_rfl) (by simp) ?_
                  refine AllReady.cons (o := ({ dst := some 92, op := Go.Op.load 37 (Go.Operand.tmp 2), type := 37, pos := "block.go:98", after := #[], guard := none } : Go.Oper)) rfl (fun K hK => ?one1) ?more1
                  case' one1 =>
                    go_simp
                    refine hK _ _ ?_
                    clear hK K
                    (try simp only [Act.put, List.getElem_toArray, List.getElem_cons_zero, List.getElem_cons_succ, List.setIfInBounds_toArray, List.set_cons_zero, List.set_cons_succ])
                    refine wpAny_ready (rs := [1, 2]) (by kernel_rfl) (by simp) ?_
                    refine AllReady.cons (o := ({ dst := some 93, op := Go.Op.load 38 (Go.Operand.tmp 3), type := 38, pos := "block.go:98", after := #[], guard := none } : Go.Oper)) rfl (fun K hK => ?one2) ?more2
                    case' one2 =>
                      go_simp
                      refine hK _ _ ?_
                      clear hK K
                      (try simp only [Act.put, List.getElem_toArray, List.getElem_cons_zero, List.getElem_cons_succ, List.setIfInBounds_toArray, List.set_cons_zero, List.set_cons_succ])
                      refine wpAny_ready (rs := [2]) (by kernel_rfl) (by simp) ?_
                      refine AllReady.cons (o := ({ dst := none, op := Go.Op.store 37 (Go.Operand.tmp 2) (Go.Operand.tmp 92), type := 0, pos := "block.go:98", after := #[{ on := 0, ground := Go.Ground.data }, { on := 0, ground := Go.Ground.phase }, { on := 1, ground := Go.Ground.textOnly Go.Departure.lateStoresUnsure }], guard := none } : Go.Oper)) rfl (fun K hK => ?_) AllReady.nil
                      go_simp
                      refine hK _ _ ?_
                      clear hK K
                      (try simp only [Act.put, List.getElem_toArray, List.getElem_cons_zero, List.getElem_cons_succ, List.setIfInBounds_toArray, List.set_cons_zero, List.set_cons_succ])
                      refine wpAny_ready (rs := [3]) (by kernel_rfl) (by simp) ?_
                      refine AllReady.cons (o := ({ dst := none, op := Go.Op.store 38 (Go.Operand.tmp 3) (Go.Operand.tmp 93), type := 0, pos := "block.go:98", after := #[{ on := 1, ground := Go.Ground.data }, { on := 2, ground := Go.Ground.chain }, { on := 0, ground := Go.Ground.phase }, { on := 1, ground := Go.Ground.phase }, { on := 2, ground := Go.Ground.phase }], guard := none } : Go.Oper)) rfl (fun K hK => ?_) AllReady.nil
                      go_simp
                      refine hK _ _ ?_
                      clear hK K
                      (try simp only [Act.put, List.getElem_toArray, List.getElem_cons_zero, List.getElem_cons_succ, List.setIfInBounds_toArray, List.set_cons_zero, List.set_cons_succ])
                      refine wpAny_ready (rs := [4]) (by kernel_rfl) (by simp) ?_
                      refine AllReady.cons (o := ({ dst := none, op := Go.Op.store 29 (Go.Operand.tmp 4) (Go.Operand.const (Go.Value.int Go.IntKind.i64 0)), type := 0, pos := "block.go:98", after := #[{ on := 3, ground := Go.Ground.chain }, { on := 0, ground := Go.Ground.phase }, { on := 1, ground := Go.Ground.phase }, { on := 2, ground := Go.Ground.phase }, { on := 3, ground := Go.Ground.phase }], guard := none } : Go.Oper)) rfl (fun K hK => ?_) AllReady.nil
                      go_simp
                      refine hK _ _ ?_
                      clear hK K
                      (try simp only [Act.put, List.getElem_toArray, List.getElem_cons_zero, List.getElem_cons_succ, List.setIfInBounds_toArray, List.set_cons_zero, List.set_cons_succ])
                      refine wpAny_done (by kernel_rfl) ?_ _
                    case' more2 =>
                      refine AllReady.cons (o := ({ dst := none, op := Go.Op.store 37 (Go.Operand.tmp 2) (Go.Operand.tmp 92), type := 0, pos := "block.go:98", after := #[{ on := 0, ground := Go.Ground.data }, { on := 0, ground := Go.Ground.phase }, { on := 1, ground := Go.Ground.textOnly Go.Departure.lateStoresUnsure }], guard := none } : Go.Oper)) rfl (fun K hK => ?_) AllReady.nil
                      go_simp
                      refine hK _ _ ?_
                      clear hK K
                      (try simp only [Act.put, List.getElem_toArray, List.getElem_cons_zero, List.getElem_cons_succ, List.setIfInBounds_toArray, List.set_cons_zero, List.set_cons_succ])
                      refine wpAny_ready (rs := [1]) (by kernel_rfl) (by simp) ?_
                      refine AllReady.cons (o := ({ dst := some 93, op := Go.Op.load 38 (Go.Operand.tmp 3), type := 38, pos := "block.go:98", after := #[], guard := none } : Go.Oper)) rfl (fun K hK => ?_) AllReady.nil
                      go_simp
                      refine hK _ _ ?_
                      clear hK K
                      (try simp only [Act.put, List.getElem_toArray, List.getElem_cons_zero, List.getElem_cons_succ, List.setIfInBounds_toArray, List.set_cons_zero, List.set_cons_succ])
                      refine wpAny_ready (rs := [3]) (by kernel_rfl) (by simp) ?_
                      refine AllReady.cons (o := ({ dst := none, op := Go.Op.store 38 (Go.Operand.tmp 3) (Go.Operand.tmp 93), type := 0, pos := "block.go:98", after := #[{ on := 1, ground := Go.Ground.data }, { on := 2, ground := Go.Ground.chain }, { on := 0, ground := Go.Ground.phase }, { on := 1, ground := Go.Ground.phase }, { on := 2, ground := Go.Ground.phase }], guard := none } : Go.Oper)) rfl (fun K hK => ?_) AllReady.nil
                      go_simp
                      refine hK _ _ ?_
                      clear hK K
                      (try simp only [Act.put, List.getElem_toArray, List.getElem_cons_zero, List.getElem_cons_succ, List.setIfInBounds_toArray, List.set_cons_zero, List.set_cons_succ])
                      refine wpAny_ready (rs := [4]) (by kernel_rfl) (by simp) ?_
                      refine AllReady.cons (o := ({ dst := none, op := Go.Op.store 29 (Go.Operand.tmp 4) (Go.Operand.const (Go.Value.int Go.IntKind.i64 0)), type := 0, pos := "block.go:98", after := #[{ on := 3, ground := Go.Ground.chain }, { on := 0, ground := Go.Ground.phase }, { on := 1, ground := Go.Ground.phase }, { on := 2, ground := Go.Ground.phase }, { on := 3, ground := Go.Ground.phase }], guard := none } : Go.Oper)) rfl (fun K hK => ?_) AllReady.nil
                      go_simp
                      refine hK _ _ ?_
                      clear hK K
                      (try simp only [Act.put, List.getElem_toArray, List.getElem_cons_zero, List.getElem_cons_succ, List.setIfInBounds_toArray, List.set_cons_zero, List.set_cons_succ])
                      refine wpAny_done (by kernel_rfl) ?_ _
                  case' more1 =>
                    refine AllReady.cons (o := ({ dst := some 93, op := Go.Op.load 38 (Go.Operand.tmp 3), type := 38, pos := "block.go:98", after := #[], guard := none } : Go.Oper)) rfl (fun K hK => ?_) AllReady.nil
                    go_simp
                    refine hK _ _ ?_
                    clear hK K
                    (try simp only [Act.put, List.getElem_toArray, List.getElem_cons_zero, List.getElem_cons_succ, List.setIfInBounds_toArray, List.set_cons_zero, List.set_cons_succ])
                    refine wpAny_ready (rs := [0]) (by kernel_rfl) (by simp) ?_
                    refine AllReady.cons (o := ({ dst := some 92, op := Go.Op.load 37 (Go.Operand.tmp 2), type := 37, pos := "block.go:98", after := #[], guard := none } : Go.Oper)) rfl (fun K hK => ?_) AllReady.nil
                    go_simp
                    refine hK _ _ ?_
                    clear hK K
                    (try simp only [Act.put, List.getElem_toArray, List.getElem_cons_zero, List.getElem_cons_succ, List.setIfInBounds_toArray, List.set_cons_zero, List.set_cons_succ])
                    refine wpAny_ready (rs := [2]) (by kernel_rfl) (by simp) ?_
                    refine AllReady.cons (o := ({ dst := none, op := Go.Op.store 37 (Go.Operand.tmp 2) (Go.Operand.tmp 92), type := 0, pos := "block.go:98", after := #[{ on := 0, ground := Go.Ground.data }, { on := 0, ground := Go.Ground.phase }, { on := 1, ground := Go.Ground.textOnly Go.Departure.lateStoresUnsure }], guard := none } : Go.Oper)) rfl (fun K hK => ?_) AllReady.nil
                    go_simp
                    refine hK _ _ ?_
                    clear hK K
                    (try simp only [Act.put, List.getElem_toArray, List.getElem_cons_zero, List.getElem_cons_succ, List.setIfInBounds_toArray, List.set_cons_zero, List.set_cons_succ])
                    refine wpAny_ready (rs := [3]) (by kernel_rfl) (by simp) ?_
                    refine AllReady.cons (o := ({ dst := none, op := Go.Op.store 38 (Go.Operand.tmp 3) (Go.Operand.tmp 93), type := 0, pos := "block.go:98", after := #[{ on := 1, ground := Go.Ground.data }, { on := 2, ground := Go.Ground.chain }, { on := 0, ground := Go.Ground.phase }, { on := 1, ground := Go.Ground.phase }, { on := 2, ground := Go.Ground.phase }], guard := none } : Go.Oper)) rfl (fun K hK => ?_) AllReady.nil
                    go_simp
                    refine hK _ _ ?_
                    clear hK K
                    (try simp only [Act.put, List.getElem_toArray, List.getElem_cons_zero, List.getElem_cons_succ, List.setIfInBounds_toArray, List.set_cons_zero, List.set_cons_succ])
                    refine wpAny_ready (rs := [4]) (by kernel_rfl) (by simp) ?_
                    refine AllReady.cons (o := ({ dst := none, op := Go.Op.store 29 (Go.Operand.tmp 4) (Go.Operand.const (Go.Value.int Go.IntKind.i64 0)), type := 0, pos := "block.go:98", after := #[{ on := 3, ground := Go.Ground.chain }, { on := 0, ground := Go.Ground.phase }, { on := 1, ground := Go.Ground.phase }, { on := 2, ground := Go.Ground.phase }, { on := 3, ground := Go.Ground.phase }], guard := none } : Go.Oper)) rfl (fun K hK => ?_) AllReady.nil
                    go_simp
                    refine hK _ _ ?_
                    clear hK K
                    (try simp only [Act.put, List.getElem_toArray, List.getElem_cons_zero, List.getElem_cons_succ, List.setIfInBounds_toArray, List.set_cons_zero, List.set_cons_succ])
                    refine wpAny_done (by kernel_rfl) ?_ _
                  all_goals
                    go_wp2
                    refine door_good R3d (X3.out.trans ((Ext.rfl_ _).drew)) HIS.out (F3.out.ext ((Ext.rfl_ _).drew)) ?_ rfl rfl rfl
                    rw [← HPs.out _ HIS.out]
                    exact I3.out.ext ((Ext.rfl_ _).drew)
                · have hdq : decide (blkB xs = b) = false := decide_eq_false hq
                  have hbad : ∀ l, ¬ IsBlk b l := fun l hl => by
                    have e := HBod.out.end_ l hl
                    subst e
                    exact hq hl.2
                  have HBAD := Lib.hid hbad
                  clear hbad
                  go_wp2_with (first | (go_at_call 35; refine (bequal_any _ _ _ _ _ _ _ _ _ HRB.out HBE.out).mono ?_; rintro e w' ⟨rfl, rfl⟩; rw [hdq]) | (go_at_call 56; refine (ask_no _).mono ?_; rintro e w' ⟨rfl, rfl⟩))
                  exact door_bad R33.out X3.out HBAD.out rfl rfl rfl
              · have hmf' : mayL xs = false := by simpa using hm
                rw [if_neg hm] at o3
                rw [if_neg hm]
                have hbad : ∀ l, ¬ IsBlk b l := fun l hl => by
                  have e := HBod.out.end_ l hl
                  subst e
                  exact hm hl.1
                have HBAD := Lib.hid hbad
                clear hbad
                go_wp2_with (go_at_call 56; refine (ask_no _).mono ?_; rintro e w' ⟨rfl, rfl⟩)
                exact door_bad (HR3.out.ext hw3) (HX1.out.trans hw3) HBAD.out rfl rfl rfl
            · have hrz : 0 < rest.length := by
                cases rest with
                | nil => exact absurd rfl hre
                | cons a t => simp
              have hrzi : (0 : Int) < (rest.length : Int) := by omega
              by_cases hxl : xs.length < 1024
              · have hxli : (xs.length : Int) < 1024 := by omega
                obtain ⟨Bb, db, rfl, hdb, hrb, _⟩ := HB.out.form
                have HBo := HB
                have hvm : (keyL [] xs).length ≤ db := hdb
                have hv16 : (keyL [] xs).length ≤ 65536 := by omega
                
                have HRBb := Lib.hid hrb
                clear hrb
                by_cases r4 : xs.length % 4 = 0
                · have r4b : ((xs.length : Int) % 4 == 0) = true := by simp; omega
                  go_wp2_with fail
                  refine (left_any g rest _ HR.out).mono ?_
                  rintro e w' ⟨rfl, rfl⟩
                  go_wp2_with (go_at_call 56; refine (ask_yes _).mono ?_; rintro e w' ⟨rfl, rfl⟩)
                  have hbodL : ∀ l, IsBlk b l → (L : Int) - (rest.length : Int) = ((bodB xs).length : Nat) := fun l hl => by
                    have h1 := HP.out l hl
                    obtain ⟨h2, h3, h4⟩ := HBod.out l hl
                    have h5 : bodB l = bodB xs ++ rest := by
                      have e1 : l = xs ++ l.drop xs.length := by conv => lhs; rw [← List.take_append_drop xs.length l, h2]
                      have e2 := bodF_app 0 [] xs (l.drop xs.length)
                      rw [← e1, Nat.zero_add, ← h4] at e2
                      exact e2
                    rw [h1] at h5
                    have h6 := congrArg List.length h5
                    rw [hbl', List.length_append] at h6
                    omega
                  have HBL := Lib.hid hbodL
                  clear hbodL
                  have hwl : IntKind.i64.wrap ((L : Int) - (rest.length : Int)) = (L : Int) - (rest.length : Int) := by rw [IntKind.wrap_i64]; omega
                  have kw1 := HR3.out.cells.1
                  have hz0 : w.heap.size < wr.heap.size := by omega
                  have hz1 : w.heap.size + 1 < wr.heap.size := by omega
                  refine wp_region_any (by kernel_rfl) ?_
                  (try (change wpAny _ _ _ _ _ _ _ (World.drew _)))
                  refine wpAny_take (i := 1) (oi := ({ dst := some 59, op := Go.Op.move (Go.Operand.tmp 6), type := 22, pos := "block.go:91", after := #[], guard := none } : Go.Oper)) (v := ?v3) rfl (by kernel_rfl) (by kernel_rfl) (by kernel_rfl) (fun _ _ _ h => openQ (by decide) (by decide) (by decide) h) (Or.inl ⟨by rfl, ?hy3⟩) ?rest3
                  case hy3 => (intro w; go_simp; (try with_reducible rfl))
                  (try simp only [Act.put, List.getElem_toArray, List.getElem_cons_zero, List.getElem_cons_succ, List.setIfInBounds_toArray, List.set_cons_zero, List.set_cons_succ])
                  refine wpAny_take (i := 2) (oi := ({ dst := some 60, op := Go.Op.call { callee := Go.Callee.builtin Go.Builtin.len, args := #[Go.Operand.tmp 59], argTypes := #[22] }, type := 3, pos := "block.go:91", after := #[{ on := 1, ground := Go.Ground.data }], guard := none } : Go.Oper)) (v := ?v4) rfl (by kernel_rfl) (by kernel_rfl) (by kernel_rfl) (fun _ _ _ h => openQ (by decide) (by decide) (by decide) h) (Or.inl ⟨by rfl, ?hy4⟩) ?rest4
                  case hy4 => (intro w; go_simp; (try with_reducible rfl))
                  (try simp only [Act.put, List.getElem_toArray, List.getElem_cons_zero, List.getElem_cons_succ, List.setIfInBounds_toArray, List.set_cons_zero, List.set_cons_succ])
                  refine wpAny_take (i := 3) (oi := ({ dst := some 61, op := Go.Op.move (Go.Operand.tmp 7), type := 90, pos := "block.go:91", after := #[], guard := none } : Go.Oper)) (v := ?v5) rfl (by kernel_rfl) (by kernel_rfl) (by kernel_rfl) (fun _ _ _ h => openQ (by decide) (by decide) (by decide) h) (Or.inl ⟨by rfl, ?hy5⟩) ?rest5
                  case hy5 => (intro w; go_simp; (try with_reducible rfl))
                  (try simp only [Act.put, List.getElem_toArray, List.getElem_cons_zero, List.getElem_cons_succ, List.setIfInBounds_toArray, List.set_cons_zero, List.set_cons_succ])
                  refine wpAny_ready (rs := [0, 4]) (by kernel_rfl) (by simp) ?_
                  refine AllReady.cons (o := ({ dst := some 58, op := Go.Op.load 38 (Go.Operand.tmp 3), type := 38, pos := "block.go:91", after := #[], guard := none } : Go.Oper)) rfl (fun K hK => ?one6) ?more6
                  case' one6 =>
                    go_simp
                    refine hK _ _ ?_
                    clear hK K
                    (try simp only [Act.put, List.getElem_toArray, List.getElem_cons_zero, List.getElem_cons_succ, List.setIfInBounds_toArray, List.set_cons_zero, List.set_cons_succ])
                    refine wpAny_ready (rs := [4]) (by kernel_rfl) (by simp) ?_
                    refine AllReady.cons (o := ({ dst := some 62, op := Go.Op.call { callee := Go.Callee.value (Go.Operand.func 59), args := #[Go.Operand.tmp 61], argTypes := #[90] }, type := 3, pos := "block.go:91", after := #[{ on := 3, ground := Go.Ground.data }], guard := none } : Go.Oper)) rfl (fun K hK => ?_) AllReady.nil
                    go_simp
                    refine (left_any g rest _ (HR.out.ext (by with_reducible (repeat (first | exact Ext.rfl_ _ | assumption | refine Ext.drew ?_ | refine Ext.drewN ?_ _ | refine Ext.alloc ?_ _ | refine Ext.trans ?_ (by assumption)))))).mono ?_; rintro e w' ⟨rfl, rfl⟩
                    (try (go_wp2_with fail))
                    (try (refine hK _ _ ?_; clear hK K))
                    (try simp only [Act.put, List.getElem_toArray, List.getElem_cons_zero, List.getElem_cons_succ, List.setIfInBounds_toArray, List.set_cons_zero, List.set_cons_succ])
                    refine wpAny_take (i := 5) (oi := ({ dst := some 63, op := Go.Op.binOp Go.BinOp.sub 3 (Go.Operand.tmp 60) (Go.Operand.tmp 62) 3, type := 3, pos := "block.go:91", after := #[{ on := 2, ground := Go.Ground.data }, { on := 4, ground := Go.Ground.data }], guard := none } : Go.Oper)) (v := ?v7) rfl (by kernel_rfl) (by kernel_rfl) (by kernel_rfl) (fun _ _ _ h => openQ (by decide) (by decide) (by decide) h) (Or.inl ⟨by rfl, ?hy7⟩) ?rest7
                    case hy7 => (intro w; go_simp; (try with_reducible rfl))
                    (try simp only [Act.put, List.getElem_toArray, List.getElem_cons_zero, List.getElem_cons_succ, List.setIfInBounds_toArray, List.set_cons_zero, List.set_cons_succ])
                    refine wpAny_ready (rs := [6]) (by kernel_rfl) (by simp) ?_
                    refine AllReady.cons (o := ({ dst := some 64, op := Go.Op.buildSlice 38 1 #[(0, Go.Operand.tmp 63)], type := 38, pos := "block.go:91", after := #[{ on := 5, ground := Go.Ground.data }], guard := none } : Go.Oper)) rfl (fun K hK => ?_) AllReady.nil
                    go_simp
                    refine hK _ _ ?_
                    clear hK K
                    (try simp only [Act.put, List.getElem_toArray, List.getElem_cons_zero, List.getElem_cons_succ, List.setIfInBounds_toArray, List.set_cons_zero, List.set_cons_succ])
                    refine wpAny_ready (rs := [7]) (by kernel_rfl) (by simp) ?_
                    refine AllReady.cons (o := ({ dst := some 65, op := Go.Op.call { callee := Go.Callee.builtin Go.Builtin.append, args := #[Go.Operand.tmp 58, Go.Operand.tmp 64], argTypes := #[38, 38] }, type := 38, pos := "block.go:91", after := #[{ on := 0, ground := Go.Ground.data }, { on := 6, ground := Go.Ground.data }, { on := 4, ground := Go.Ground.chain }], guard := none } : Go.Oper)) rfl (fun K hK => ?_) AllReady.nil
                    refine step_appI rfl _ _ rfl w.heap.size (.slice Aa ps.length ca) ps rfl wr.drew 3 ((L : Int) - (rest.length : Int)) rfl (HI.out.ext (by with_reducible (repeat (first | exact Ext.rfl_ _ | assumption | refine Ext.drew ?_ | refine Ext.drewN ?_ _ | refine Ext.alloc ?_ _ | refine Ext.trans ?_ (by assumption))))) rfl (by omega) (Ext.size (HX1.out.trans (by with_reducible (repeat (first | exact Ext.rfl_ _ | assumption | refine Ext.drew ?_ | refine Ext.drewN ?_ _ | refine Ext.alloc ?_ _ | refine Ext.trans ?_ (by assumption)))))) ?_; intro v7 w7 o7 kx7 g7; have K7 : Kx 3 wr w7 := Kx.trans (Kx.of_ext (by with_reducible (repeat (first | exact Ext.rfl_ _ | assumption | refine Ext.drew ?_ | refine Ext.drewN ?_ _ | refine Ext.alloc ?_ _ | refine Ext.trans ?_ (by assumption))))) kx7; have R37 := HR3.out.kx K7 (by decide) (by decide) (by decide); have X7 : Ext w w7 := Ext.grown (HX1.out.trans (by with_reducible (repeat (first | exact Ext.rfl_ _ | assumption | refine Ext.drew ?_ | refine Ext.drewN ?_ _ | refine Ext.alloc ?_ _ | refine Ext.trans ?_ (by assumption))))) g7 (fun k hk => (World.ownsRow.lt HI.out k hk).1); obtain ⟨k1, k2, k3, f1, f2, f3, hsz⟩ := R37.cells; obtain ⟨A7, c7, rfl, _⟩ := own_form o7
                    refine hK _ _ ?_
                    clear hK K
                    (try simp only [Act.put, List.getElem_toArray, List.getElem_cons_zero, List.getElem_cons_succ, List.setIfInBounds_toArray, List.set_cons_zero, List.set_cons_succ])
                    refine wpAny_ready (rs := [8]) (by kernel_rfl) (by simp) ?_
                    refine AllReady.cons (o := ({ dst := none, op := Go.Op.store 38 (Go.Operand.tmp 3) (Go.Operand.tmp 65), type := 0, pos := "block.go:91", after := #[{ on := 7, ground := Go.Ground.data }, { on := 7, ground := Go.Ground.chain }, { on := 0, ground := Go.Ground.phase }, { on := 1, ground := Go.Ground.phase }, { on := 2, ground := Go.Ground.phase }, { on := 3, ground := Go.Ground.phase }, { on := 4, ground := Go.Ground.phase }, { on := 5, ground := Go.Ground.phase }, { on := 6, ground := Go.Ground.phase }, { on := 7, ground := Go.Ground.phase }], guard := none } : Go.Oper)) rfl (fun K hK => ?_) AllReady.nil
                    go_simp
                    refine hK _ _ ?_
                    clear hK K
                    (try simp only [Act.put, List.getElem_toArray, List.getElem_cons_zero, List.getElem_cons_succ, List.setIfInBounds_toArray, List.set_cons_zero, List.set_cons_succ])
                    refine wpAny_done (by kernel_rfl) ?_ _
                  case' more6 =>
                    refine AllReady.cons (o := ({ dst := some 62, op := Go.Op.call { callee := Go.Callee.value (Go.Operand.func 59), args := #[Go.Operand.tmp 61], argTypes := #[90] }, type := 3, pos := "block.go:91", after := #[{ on := 3, ground := Go.Ground.data }], guard := none } : Go.Oper)) rfl (fun K hK => ?_) AllReady.nil
                    go_simp
                    refine (left_any g rest _ (HR.out.ext (by with_reducible (repeat (first | exact Ext.rfl_ _ | assumption | refine Ext.drew ?_ | refine Ext.drewN ?_ _ | refine Ext.alloc ?_ _ | refine Ext.trans ?_ (by assumption)))))).mono ?_; rintro e w' ⟨rfl, rfl⟩
                    (try (go_wp2_with fail))
                    (try (refine hK _ _ ?_; clear hK K))
                    (try simp only [Act.put, List.getElem_toArray, List.getElem_cons_zero, List.getElem_cons_succ, List.setIfInBounds_toArray, List.set_cons_zero, List.set_cons_succ])
                    refine wpAny_take (i := 5) (oi := ({ dst := some 63, op := Go.Op.binOp Go.BinOp.sub 3 (Go.Operand.tmp 60) (Go.Operand.tmp 62) 3, type := 3, pos := "block.go:91", after := #[{ on := 2, ground := Go.Ground.data }, { on := 4, ground := Go.Ground.data }], guard := none } : Go.Oper)) (v := ?v8) rfl (by kernel_rfl) (by kernel_rfl) (by kernel_rfl) (fun _ _ _ h => openQ (by decide) (by decide) (by decide) h) (Or.inl ⟨by rfl, ?hy8⟩) ?rest8
                    case hy8 => (intro w; go_simp; (try with_reducible rfl))
                    (try simp only [Act.put, List.getElem_toArray, List.getElem_cons_zero, List.getElem_cons_succ, List.setIfInBounds_toArray, List.set_cons_zero, List.set_cons_succ])
                    refine wpAny_ready (rs := [0, 6]) (by kernel_rfl) (by simp) ?_
                    refine AllReady.cons (o := ({ dst := some 58, op := Go.Op.load 38 (Go.Operand.tmp 3), type := 38, pos := "block.go:91", after := #[], guard := none } : Go.Oper)) rfl (fun K hK => ?one9) ?more9
                    case' one9 =>
                      go_simp
                      refine hK _ _ ?_
                      clear hK K
                      (try simp only [Act.put, List.getElem_toArray, List.getElem_cons_zero, List.getElem_cons_succ, List.setIfInBounds_toArray, List.set_cons_zero, List.set_cons_succ])
                      refine wpAny_ready (rs := [6]) (by kernel_rfl) (by simp) ?_
                      refine AllReady.cons (o := ({ dst := some 64, op := Go.Op.buildSlice 38 1 #[(0, Go.Operand.tmp 63)], type := 38, pos := "block.go:91", after := #[{ on := 5, ground := Go.Ground.data }], guard := none } : Go.Oper)) rfl (fun K hK => ?_) AllReady.nil
                      go_simp
                      refine hK _ _ ?_
                      clear hK K
                      (try simp only [Act.put, List.getElem_toArray, List.getElem_cons_zero, List.getElem_cons_succ, List.setIfInBounds_toArray, List.set_cons_zero, List.set_cons_succ])
                      refine wpAny_ready (rs := [7]) (by kernel_rfl) (by simp) ?_
                      refine AllReady.cons (o := ({ dst := some 65, op := Go.Op.call { callee := Go.Callee.builtin Go.Builtin.append, args := #[Go.Operand.tmp 58, Go.Operand.tmp 64], argTypes := #[38, 38] }, type := 38, pos := "block.go:91", after := #[{ on := 0, ground := Go.Ground.data }, { on := 6, ground := Go.Ground.data }, { on := 4, ground := Go.Ground.chain }], guard := none } : Go.Oper)) rfl (fun K hK => ?_) AllReady.nil
                      refine step_appI rfl _ _ rfl w.heap.size (.slice Aa ps.length ca) ps rfl wr.drew 3 ((L : Int) - (rest.length : Int)) rfl (HI.out.ext (by with_reducible (repeat (first | exact Ext.rfl_ _ | assumption | refine Ext.drew ?_ | refine Ext.drewN ?_ _ | refine Ext.alloc ?_ _ | refine Ext.trans ?_ (by assumption))))) rfl (by omega) (Ext.size (HX1.out.trans (by with_reducible (repeat (first | exact Ext.rfl_ _ | assumption | refine Ext.drew ?_ | refine Ext.drewN ?_ _ | refine Ext.alloc ?_ _ | refine Ext.trans ?_ (by assumption)))))) ?_; intro v7 w7 o7 kx7 g7; have K7 : Kx 3 wr w7 := Kx.trans (Kx.of_ext (by with_reducible (repeat (first | exact Ext.rfl_ _ | assumption | refine Ext.drew ?_ | refine Ext.drewN ?_ _ | refine Ext.alloc ?_ _ | refine Ext.trans ?_ (by assumption))))) kx7; have R37 := HR3.out.kx K7 (by decide) (by decide) (by decide); have X7 : Ext w w7 := Ext.grown (HX1.out.trans (by with_reducible (repeat (first | exact Ext.rfl_ _ | assumption | refine Ext.drew ?_ | refine Ext.drewN ?_ _ | refine Ext.alloc ?_ _ | refine Ext.trans ?_ (by assumption))))) g7 (fun k hk => (World.ownsRow.lt HI.out k hk).1); obtain ⟨k1, k2, k3, f1, f2, f3, hsz⟩ := R37.cells; obtain ⟨A7, c7, rfl, _⟩ := own_form o7
                      refine hK _ _ ?_
                      clear hK K
                      (try simp only [Act.put, List.getElem_toArray, List.getElem_cons_zero, List.getElem_cons_succ, List.setIfInBounds_toArray, List.set_cons_zero, List.set_cons_succ])
                      refine wpAny_ready (rs := [8]) (by kernel_rfl) (by simp) ?_
                      refine AllReady.cons (o := ({ dst := none, op := Go.Op.store 38 (Go.Operand.tmp 3) (Go.Operand.tmp 65), type := 0, pos := "block.go:91", after := #[{ on := 7, ground := Go.Ground.data }, { on := 7, ground := Go.Ground.chain }, { on := 0, ground := Go.Ground.phase }, { on := 1, ground := Go.Ground.phase }, { on := 2, ground := Go.Ground.phase }, { on := 3, ground := Go.Ground.phase }, { on := 4, ground := Go.Ground.phase }, { on := 5, ground := Go.Ground.phase }, { on := 6, ground := Go.Ground.phase }, { on := 7, ground := Go.Ground.phase }], guard := none } : Go.Oper)) rfl (fun K hK => ?_) AllReady.nil
                      go_simp
                      refine hK _ _ ?_
                      clear hK K
                      (try simp only [Act.put, List.getElem_toArray, List.getElem_cons_zero, List.getElem_cons_succ, List.setIfInBounds_toArray, List.set_cons_zero, List.set_cons_succ])
                      refine wpAny_done (by kernel_rfl) ?_ _
                    case' more9 =>
                      refine AllReady.cons (o := ({ dst := some 64, op := Go.Op.buildSlice 38 1 #[(0, Go.Operand.tmp 63)], type := 38, pos := "block.go:91", after := #[{ on := 5, ground := Go.Ground.data }], guard := none } : Go.Oper)) rfl (fun K hK => ?_) AllReady.nil
                      go_simp
                      refine hK _ _ ?_
                      clear hK K
                      (try simp only [Act.put, List.getElem_toArray, List.getElem_cons_zero, List.getElem_cons_succ, List.setIfInBounds_toArray, List.set_cons_zero, List.set_cons_succ])
                      refine wpAny_ready (rs := [0]) (by kernel_rfl) (by simp) ?_
                      refine AllReady.cons (o := ({ dst := some 58, op := Go.Op.load 38 (Go.Operand.tmp 3), type := 38, pos := "block.go:91", after := #[], guard := none } : Go.Oper)) rfl (fun K hK => ?_) AllReady.nil
                      go_simp
                      refine hK _ _ ?_
                      clear hK K
                      (try simp only [Act.put, List.getElem_toArray, List.getElem_cons_zero, List.getElem_cons_succ, List.setIfInBounds_toArray, List.set_cons_zero, List.set_cons_succ])
                      refine wpAny_ready (rs := [7]) (by kernel_rfl) (by simp) ?_
                      refine AllReady.cons (o := ({ dst := some 65, op := Go.Op.call { callee := Go.Callee.builtin Go.Builtin.append, args := #[Go.Operand.tmp 58, Go.Operand.tmp 64], argTypes := #[38, 38] }, type := 38, pos := "block.go:91", after := #[{ on := 0, ground := Go.Ground.data }, { on := 6, ground := Go.Ground.data }, { on := 4, ground := Go.Ground.chain }], guard := none } : Go.Oper)) rfl (fun K hK => ?_) AllReady.nil
                      refine step_appI rfl _ _ rfl w.heap.size (.slice Aa ps.length ca) ps rfl wr.drew 3 ((L : Int) - (rest.length : Int)) rfl (HI.out.ext (by with_reducible (repeat (first | exact Ext.rfl_ _ | assumption | refine Ext.drew ?_ | refine Ext.drewN ?_ _ | refine Ext.alloc ?_ _ | refine Ext.trans ?_ (by assumption))))) rfl (by omega) (Ext.size (HX1.out.trans (by with_reducible (repeat (first | exact Ext.rfl_ _ | assumption | refine Ext.drew ?_ | refine Ext.drewN ?_ _ | refine Ext.alloc ?_ _ | refine Ext.trans ?_ (by assumption)))))) ?_; intro v7 w7 o7 kx7 g7; have K7 : Kx 3 wr w7 := Kx.trans (Kx.of_ext (by with_reducible (repeat (first | exact Ext.rfl_ _ | assumption | refine Ext.drew ?_ | refine Ext.drewN ?_ _ | refine Ext.alloc ?_ _ | refine Ext.trans ?_ (by assumption))))) kx7; have R37 := HR3.out.kx K7 (by decide) (by decide) (by decide); have X7 : Ext w w7 := Ext.grown (HX1.out.trans (by with_reducible (repeat (first | exact Ext.rfl_ _ | assumption | refine Ext.drew ?_ | refine Ext.drewN ?_ _ | refine Ext.alloc ?_ _ | refine Ext.trans ?_ (by assumption))))) g7 (fun k hk => (World.ownsRow.lt HI.out k hk).1); obtain ⟨k1, k2, k3, f1, f2, f3, hsz⟩ := R37.cells; obtain ⟨A7, c7, rfl, _⟩ := own_form o7
                      refine hK _ _ ?_
                      clear hK K
                      (try simp only [Act.put, List.getElem_toArray, List.getElem_cons_zero, List.getElem_cons_succ, List.setIfInBounds_toArray, List.set_cons_zero, List.set_cons_succ])
                      refine wpAny_ready (rs := [8]) (by kernel_rfl) (by simp) ?_
                      refine AllReady.cons (o := ({ dst := none, op := Go.Op.store 38 (Go.Operand.tmp 3) (Go.Operand.tmp 65), type := 0, pos := "block.go:91", after := #[{ on := 7, ground := Go.Ground.data }, { on := 7, ground := Go.Ground.chain }, { on := 0, ground := Go.Ground.phase }, { on := 1, ground := Go.Ground.phase }, { on := 2, ground := Go.Ground.phase }, { on := 3, ground := Go.Ground.phase }, { on := 4, ground := Go.Ground.phase }, { on := 5, ground := Go.Ground.phase }, { on := 6, ground := Go.Ground.phase }, { on := 7, ground := Go.Ground.phase }], guard := none } : Go.Oper)) rfl (fun K hK => ?_) AllReady.nil
                      go_simp
                      refine hK _ _ ?_
                      clear hK K
                      (try simp only [Act.put, List.getElem_toArray, List.getElem_cons_zero, List.getElem_cons_succ, List.setIfInBounds_toArray, List.set_cons_zero, List.set_cons_succ])
                      refine wpAny_done (by kernel_rfl) ?_ _
                  · go_wp2_with fail
                    have hlp : (ps ++ [(L : Int) - (rest.length : Int)]).length = ps.length + 1 := by simp
                    rw [hlp] at o7
                    obtain ⟨wq, hwq⟩ : ∃ wq, wq = w7.setCell ⟨w.heap.size + 1, 0, none⟩ (.slice A7 (ps.length + 1) c7) := ⟨_, rfl⟩
                    obtain ⟨vaq, hvaq⟩ : ∃ vaq, vaq = Value.slice A7 (ps.length + 1) c7 := ⟨_, rfl⟩
                    obtain ⟨psq, hpsq⟩ : ∃ psq, psq = ps ++ [(L : Int) - (rest.length : Int)] := ⟨_, rfl⟩
                    have hpl : psq.length ≤ xs.length + 1 := by rw [hpsq, hlp]; omega
                    have KQ : Kx 38 w7 wq := by rw [hwq]; exact Kx.of_set R37.2.1
                    have R3q : R3 w.heap.size wq (.slice Al xs.length cl) vaq 0 := by rw [hwq, hvaq]; exact R37.set2 _
                    have XQ : Ext w wq := by rw [hwq]; exact X7.setCell (by simp) _
                    have Iq : OwnI wq w.heap.size vaq psq := by rw [hvaq, hpsq]; exact o7.kx KQ (by decide)
                    have hPsq : ∀ (y : Ent) l, IsBlk b l → psq = posI (xs ++ [y]) := fun y l hl => by
                      rw [hpsq, HPs.out l hl]
                      unfold posI
                      rw [posB_snoc, if_pos r4, List.map_append, HBL.out l hl]
                      rfl
                    rw [← hwq]
                    have HPsq := Lib.hid hPsq
                    have HXq := Lib.hid XQ
                    have HR3q := Lib.hid R3q
                    have HFq := Lib.hid ((HF.out.kx K7 (by decide) (by decide)).kx KQ (by decide) (by decide))
                    have HRq := Lib.hid ((HR.out.kx K7 (by decide) (by decide)).kx KQ (by decide) (by decide))
                    have HBqO := (HBo.out.kx K7 (by decide)).kx KQ (by decide)
                    have HBq := Lib.hid (Rd.of_OwnB HBqO rfl)
                    have HIq := Lib.hid Iq
                    obtain ⟨k1, k2, k3, f1, f2, f3, hsz⟩ := R3q.cells
                    clear hwq hpsq hvaq hPsq XQ R3q Iq KQ K7 X7 R37 kx7 g7 o7 hz0 hz1 HBqO hlp
                    cases hpe : pEnt (keyL [] xs) rest with
                    | none =>
                      have hbad := HBod.out.bad hpe hre
                      have HBAD := Lib.hid hbad
                      clear hbad
                      refine wp_region_any (by kernel_rfl) ?_
                      (try (change wpAny _ _ _ _ _ _ _ (World.drew _)))
                      refine wpAny_take (i := 1) (oi := ({ dst := some 67, op := Go.Op.move (Go.Operand.tmp 7), type := 90, pos := "block.go:93", after := #[], guard := none } : Go.Oper)) (v := ?v10) rfl (by kernel_rfl) (by kernel_rfl) (by kernel_rfl) (fun _ _ _ h => openQ (by decide) (by decide) (by decide) h) (Or.inl ⟨by rfl, ?hy10⟩) ?rest10
                      case hy10 => (intro w; go_simp; (try with_reducible rfl))
                      (try simp only [Act.put, List.getElem_toArray, List.getElem_cons_zero, List.getElem_cons_succ, List.setIfInBounds_toArray, List.set_cons_zero, List.set_cons_succ])
                      refine wpAny_take (i := 2) (oi := ({ dst := some 68, op := Go.Op.move (Go.Operand.tmp 8), type := 22, pos := "block.go:93", after := #[], guard := none } : Go.Oper)) (v := ?v11) rfl (by kernel_rfl) (by kernel_rfl) (by kernel_rfl) (fun _ _ _ h => openQ (by decide) (by decide) (by decide) h) (Or.inl ⟨by rfl, ?hy11⟩) ?rest11
                      case hy11 => (intro w; go_simp; (try with_reducible rfl))
                      (try simp only [Act.put, List.getElem_toArray, List.getElem_cons_zero, List.getElem_cons_succ, List.setIfInBounds_toArray, List.set_cons_zero, List.set_cons_succ])
                      refine wpAny_ready (rs := [0, 3]) (by kernel_rfl) (by simp) ?_
                      refine AllReady.cons (o := ({ dst := some 66, op := Go.Op.load 37 (Go.Operand.tmp 2), type := 37, pos := "block.go:93", after := #[], guard := none } : Go.Oper)) rfl (fun K hK => ?one12) ?more12
                      case' one12 =>
                        go_simp
                        refine hK _ _ ?_
                        clear hK K
                        (try simp only [Act.put, List.getElem_toArray, List.getElem_cons_zero, List.getElem_cons_succ, List.setIfInBounds_toArray, List.set_cons_zero, List.set_cons_succ])
                        refine wpAny_ready (rs := [3]) (by kernel_rfl) (by simp) ?_
                        refine AllReady.cons (o := ({ dst := some 69, op := Go.Op.call { callee := Go.Callee.value (Go.Operand.func 60), args := #[Go.Operand.tmp 67, Go.Operand.tmp 68], argTypes := #[90, 22] }, type := 28, pos := "block.go:93", after := #[{ on := 1, ground := Go.Ground.data }, { on := 2, ground := Go.Ground.data }], guard := none } : Go.Oper)) rfl (fun K hK => ?_) AllReady.nil
                        go_simp
                        refine (entry_any g _ _ _ (keyL [] xs) rest _ (HRq.out.ext (by with_reducible (repeat (first | exact Ext.rfl_ _ | assumption | refine Ext.drew ?_ | refine Ext.drewN ?_ _ | refine Ext.alloc ?_ _ | refine Ext.trans ?_ (by assumption))))) (HBq.out.ext (by with_reducible (repeat (first | exact Ext.rfl_ _ | assumption | refine Ext.drew ?_ | refine Ext.drewN ?_ _ | refine Ext.alloc ?_ _ | refine Ext.trans ?_ (by assumption))))) hvm hv16).mono ?_; rintro e w6 ⟨h6, hc6⟩; rcases h6 with ⟨_, _, _, _, hp6, _⟩ | ⟨rfl, _⟩; exact absurd hp6 (by rw [hpe]; simp); exact door_bad (HR3q.out.kx (Kx.trans (Kx.of_ext (by with_reducible (repeat (first | exact Ext.rfl_ _ | assumption | refine Ext.drew ?_ | refine Ext.drewN ?_ _ | refine Ext.alloc ?_ _ | refine Ext.trans ?_ (by assumption))))) (Kx.of_rdr hc6 (HRq.out.ext (by with_reducible (repeat (first | exact Ext.rfl_ _ | assumption | refine Ext.drew ?_ | refine Ext.drewN ?_ _ | refine Ext.alloc ?_ _ | refine Ext.trans ?_ (by assumption))))))) (by decide) (by decide) (by decide)) (HXq.out.chg ((Chg.of_ext (by with_reducible (repeat (first | exact Ext.rfl_ _ | assumption | refine Ext.drew ?_ | refine Ext.drewN ?_ _ | refine Ext.alloc ?_ _ | refine Ext.trans ?_ (by assumption))))).trans hc6) hg0) HBAD.out rfl rfl rfl
                      case' more12 =>
                        refine AllReady.cons (o := ({ dst := some 69, op := Go.Op.call { callee := Go.Callee.value (Go.Operand.func 60), args := #[Go.Operand.tmp 67, Go.Operand.tmp 68], argTypes := #[90, 22] }, type := 28, pos := "block.go:93", after := #[{ on := 1, ground := Go.Ground.data }, { on := 2, ground := Go.Ground.data }], guard := none } : Go.Oper)) rfl (fun K hK => ?_) AllReady.nil
                        go_simp
                        refine (entry_any g _ _ _ (keyL [] xs) rest _ (HRq.out.ext (by with_reducible (repeat (first | exact Ext.rfl_ _ | assumption | refine Ext.drew ?_ | refine Ext.drewN ?_ _ | refine Ext.alloc ?_ _ | refine Ext.trans ?_ (by assumption))))) (HBq.out.ext (by with_reducible (repeat (first | exact Ext.rfl_ _ | assumption | refine Ext.drew ?_ | refine Ext.drewN ?_ _ | refine Ext.alloc ?_ _ | refine Ext.trans ?_ (by assumption))))) hvm hv16).mono ?_; rintro e w6 ⟨h6, hc6⟩; rcases h6 with ⟨_, _, _, _, hp6, _⟩ | ⟨rfl, _⟩; exact absurd hp6 (by rw [hpe]; simp); exact door_bad (HR3q.out.kx (Kx.trans (Kx.of_ext (by with_reducible (repeat (first | exact Ext.rfl_ _ | assumption | refine Ext.drew ?_ | refine Ext.drewN ?_ _ | refine Ext.alloc ?_ _ | refine Ext.trans ?_ (by assumption))))) (Kx.of_rdr hc6 (HRq.out.ext (by with_reducible (repeat (first | exact Ext.rfl_ _ | assumption | refine Ext.drew ?_ | refine Ext.drewN ?_ _ | refine Ext.alloc ?_ _ | refine Ext.trans ?_ (by assumption))))))) (by decide) (by decide) (by decide)) (HXq.out.chg ((Chg.of_ext (by with_reducible (repeat (first | exact Ext.rfl_ _ | assumption | refine Ext.drew ?_ | refine Ext.drewN ?_ _ | refine Ext.alloc ?_ _ | refine Ext.trans ?_ (by assumption))))).trans hc6) hg0) HBAD.out rfl rfl rfl
                    | some q =>
                      obtain ⟨y, r'⟩ := q
                      have hyk := pEnt_key hpe
                      refine wp_region_any (by kernel_rfl) ?_
                      (try (change wpAny _ _ _ _ _ _ _ (World.drew _)))
                      refine wpAny_take (i := 1) (oi := ({ dst := some 67, op := Go.Op.move (Go.Operand.tmp 7), type := 90, pos := "block.go:93", after := #[], guard := none } : Go.Oper)) (v := ?v13) rfl (by kernel_rfl) (by kernel_rfl) (by kernel_rfl) (fun _ _ _ h => openQ (by decide) (by decide) (by decide) h) (Or.inl ⟨by rfl, ?hy13⟩) ?rest13
                      case hy13 => (intro w; go_simp; (try with_reducible rfl))
                      (try simp only [Act.put, List.getElem_toArray, List.getElem_cons_zero, List.getElem_cons_succ, List.setIfInBounds_toArray, List.set_cons_zero, List.set_cons_succ])
                      refine wpAny_take (i := 2) (oi := ({ dst := some 68, op := Go.Op.move (Go.Operand.tmp 8), type := 22, pos := "block.go:93", after := #[], guard := none } : Go.Oper)) (v := ?v14) rfl (by kernel_rfl) (by kernel_rfl) (by kernel_rfl) (fun _ _ _ h => openQ (by decide) (by decide) (by decide) h) (Or.inl ⟨by rfl, ?hy14⟩) ?rest14
                      case hy14 => (intro w; go_simp; (try with_reducible rfl))
                      (try simp only [Act.put, List.getElem_toArray, List.getElem_cons_zero, List.getElem_cons_succ, List.setIfInBounds_toArray, List.set_cons_zero, List.set_cons_succ])
                      refine wpAny_ready (rs := [0, 3]) (by kernel_rfl) (by simp) ?_
                      refine AllReady.cons (o := ({ dst := some 66, op := Go.Op.load 37 (Go.Operand.tmp 2), type := 37, pos := "block.go:93", after := #[], guard := none } : Go.Oper)) rfl (fun K hK => ?one15) ?more15
                      case' one15 =>
                        go_simp
                        refine hK _ _ ?_
                        clear hK K
                        (try simp only [Act.put, List.getElem_toArray, List.getElem_cons_zero, List.getElem_cons_succ, List.setIfInBounds_toArray, List.set_cons_zero, List.set_cons_succ])
                        refine wpAny_ready (rs := [3]) (by kernel_rfl) (by simp) ?_
                        refine AllReady.cons (o := ({ dst := some 69, op := Go.Op.call { callee := Go.Callee.value (Go.Operand.func 60), args := #[Go.Operand.tmp 67, Go.Operand.tmp 68], argTypes := #[90, 22] }, type := 28, pos := "block.go:93", after := #[{ on := 1, ground := Go.Ground.data }, { on := 2, ground := Go.Ground.data }], guard := none } : Go.Oper)) rfl (fun K hK => ?_) AllReady.nil
                        go_simp
                        refine (entry_any g _ _ _ (keyL [] xs) rest _ (HRq.out.ext (by with_reducible (repeat (first | exact Ext.rfl_ _ | assumption | refine Ext.drew ?_ | refine Ext.drewN ?_ _ | refine Ext.alloc ?_ _ | refine Ext.trans ?_ (by assumption))))) (HBq.out.ext (by with_reducible (repeat (first | exact Ext.rfl_ _ | assumption | refine Ext.drew ?_ | refine Ext.drewN ?_ _ | refine Ext.alloc ?_ _ | refine Ext.trans ?_ (by assumption))))) hvm hv16).mono ?_; rintro e w6 ⟨h6, hc6⟩; rcases h6 with ⟨v6, y6, q6, rfl, hp6, hf6, hr6⟩ | ⟨_, hp6⟩; rotate_left; exact absurd hp6 (by rw [hpe]; simp); rw [hpe] at hp6; obtain ⟨rfl, rfl⟩ := (Prod.mk.inj (Option.some.inj hp6)); obtain ⟨A5, n5, c5, B5, m5, d5, rfl, hfe⟩ := frE_cells hf6; have K6 : Kx 105 wq w6 := Kx.trans (Kx.of_ext (by with_reducible (repeat (first | exact Ext.rfl_ _ | assumption | refine Ext.drew ?_ | refine Ext.drewN ?_ _ | refine Ext.alloc ?_ _ | refine Ext.trans ?_ (by assumption))))) (Kx.of_rdr hc6 (HRq.out.ext (by with_reducible (repeat (first | exact Ext.rfl_ _ | assumption | refine Ext.drew ?_ | refine Ext.drewN ?_ _ | refine Ext.alloc ?_ _ | refine Ext.trans ?_ (by assumption)))))); have X6 : Ext w w6 := (HXq.out.chg ((Chg.of_ext (by with_reducible (repeat (first | exact Ext.rfl_ _ | assumption | refine Ext.drew ?_ | refine Ext.drewN ?_ _ | refine Ext.alloc ?_ _ | refine Ext.trans ?_ (by assumption))))).trans hc6) hg0); obtain ⟨k1, k2, k3, f1, f2, f3, hsz⟩ := (HR3q.out.kx K6 (by decide) (by decide) (by decide)).cells; have hz0 : w.heap.size < w6.heap.size := (by omega); have hz1 : w.heap.size + 1 < w6.heap.size := (by omega)
                        (try (go_wp2_with fail))
                        (try (refine hK _ _ ?_; clear hK K))
                        (try simp only [Act.put, List.getElem_toArray, List.getElem_cons_zero, List.getElem_cons_succ, List.setIfInBounds_toArray, List.set_cons_zero, List.set_cons_succ])
                        refine wpAny_ready (rs := [4]) (by kernel_rfl) (by simp) ?_
                        refine AllReady.cons (o := ({ dst := some 70, op := Go.Op.buildSlice 37 1 #[(0, Go.Operand.tmp 69)], type := 37, pos := "block.go:93", after := #[{ on := 3, ground := Go.Ground.data }], guard := none } : Go.Oper)) rfl (fun K hK => ?_) AllReady.nil
                        go_simp
                        refine hK _ _ ?_
                        clear hK K
                        (try simp only [Act.put, List.getElem_toArray, List.getElem_cons_zero, List.getElem_cons_succ, List.setIfInBounds_toArray, List.set_cons_zero, List.set_cons_succ])
                        refine wpAny_ready (rs := [5]) (by kernel_rfl) (by simp) ?_
                        refine AllReady.cons (o := ({ dst := some 71, op := Go.Op.call { callee := Go.Callee.builtin Go.Builtin.append, args := #[Go.Operand.tmp 66, Go.Operand.tmp 70], argTypes := #[37, 37] }, type := 37, pos := "block.go:93", after := #[{ on := 0, ground := Go.Ground.data }, { on := 4, ground := Go.Ground.data }, { on := 3, ground := Go.Ground.chain }], guard := none } : Go.Oper)) rfl (fun K hK => ?_) AllReady.nil
                        refine step_appF rfl _ _ rfl w.heap.size (.slice Al xs.length cl) xs rfl w6 28 ⟨A5, n5, c5, B5, m5, d5⟩ y rfl (HFq.out.kx K6 (by decide) (by decide)) (hfe.low (Ext.size (HXq.out.trans (by with_reducible (repeat (first | exact Ext.rfl_ _ | assumption | refine Ext.drew ?_ | refine Ext.drewN ?_ _ | refine Ext.alloc ?_ _ | refine Ext.trans ?_ (by assumption))))))) rfl (by omega) (Ext.size X6) ?_; intro v8 w8 o8 kx8 g8; have R38 := (HR3q.out.kx K6 (by decide) (by decide) (by decide)).kx kx8 (by decide) (by decide) (by decide); obtain ⟨k1, k2, k3, f1, f2, f3, hsz⟩ := R38.cells; obtain ⟨G8, c8, _, _, _, rfl, hc8, _, _⟩ := o8.last
                        refine hK _ _ ?_
                        clear hK K
                        (try simp only [Act.put, List.getElem_toArray, List.getElem_cons_zero, List.getElem_cons_succ, List.setIfInBounds_toArray, List.set_cons_zero, List.set_cons_succ])
                        refine wpAny_ready (rs := [6]) (by kernel_rfl) (by simp) ?_
                        refine AllReady.cons (o := ({ dst := none, op := Go.Op.store 37 (Go.Operand.tmp 2) (Go.Operand.tmp 71), type := 0, pos := "block.go:93", after := #[{ on := 5, ground := Go.Ground.data }, { on := 5, ground := Go.Ground.chain }, { on := 0, ground := Go.Ground.phase }, { on := 1, ground := Go.Ground.phase }, { on := 2, ground := Go.Ground.phase }, { on := 3, ground := Go.Ground.phase }, { on := 4, ground := Go.Ground.phase }, { on := 5, ground := Go.Ground.phase }], guard := none } : Go.Oper)) rfl (fun K hK => ?_) AllReady.nil
                        go_simp
                        refine hK _ _ ?_
                        clear hK K
                        (try simp only [Act.put, List.getElem_toArray, List.getElem_cons_zero, List.getElem_cons_succ, List.setIfInBounds_toArray, List.set_cons_zero, List.set_cons_succ])
                        refine wpAny_done (by kernel_rfl) ?_ _
                      case' more15 =>
                        refine AllReady.cons (o := ({ dst := some 69, op := Go.Op.call { callee := Go.Callee.value (Go.Operand.func 60), args := #[Go.Operand.tmp 67, Go.Operand.tmp 68], argTypes := #[90, 22] }, type := 28, pos := "block.go:93", after := #[{ on := 1, ground := Go.Ground.data }, { on := 2, ground := Go.Ground.data }], guard := none } : Go.Oper)) rfl (fun K hK => ?_) AllReady.nil
                        go_simp
                        refine (entry_any g _ _ _ (keyL [] xs) rest _ (HRq.out.ext (by with_reducible (repeat (first | exact Ext.rfl_ _ | assumption | refine Ext.drew ?_ | refine Ext.drewN ?_ _ | refine Ext.alloc ?_ _ | refine Ext.trans ?_ (by assumption))))) (HBq.out.ext (by with_reducible (repeat (first | exact Ext.rfl_ _ | assumption | refine Ext.drew ?_ | refine Ext.drewN ?_ _ | refine Ext.alloc ?_ _ | refine Ext.trans ?_ (by assumption))))) hvm hv16).mono ?_; rintro e w6 ⟨h6, hc6⟩; rcases h6 with ⟨v6, y6, q6, rfl, hp6, hf6, hr6⟩ | ⟨_, hp6⟩; rotate_left; exact absurd hp6 (by rw [hpe]; simp); rw [hpe] at hp6; obtain ⟨rfl, rfl⟩ := (Prod.mk.inj (Option.some.inj hp6)); obtain ⟨A5, n5, c5, B5, m5, d5, rfl, hfe⟩ := frE_cells hf6; have K6 : Kx 105 wq w6 := Kx.trans (Kx.of_ext (by with_reducible (repeat (first | exact Ext.rfl_ _ | assumption | refine Ext.drew ?_ | refine Ext.drewN ?_ _ | refine Ext.alloc ?_ _ | refine Ext.trans ?_ (by assumption))))) (Kx.of_rdr hc6 (HRq.out.ext (by with_reducible (repeat (first | exact Ext.rfl_ _ | assumption | refine Ext.drew ?_ | refine Ext.drewN ?_ _ | refine Ext.alloc ?_ _ | refine Ext.trans ?_ (by assumption)))))); have X6 : Ext w w6 := (HXq.out.chg ((Chg.of_ext (by with_reducible (repeat (first | exact Ext.rfl_ _ | assumption | refine Ext.drew ?_ | refine Ext.drewN ?_ _ | refine Ext.alloc ?_ _ | refine Ext.trans ?_ (by assumption))))).trans hc6) hg0); obtain ⟨k1, k2, k3, f1, f2, f3, hsz⟩ := (HR3q.out.kx K6 (by decide) (by decide) (by decide)).cells; have hz0 : w.heap.size < w6.heap.size := (by omega); have hz1 : w.heap.size + 1 < w6.heap.size := (by omega)
                        (try (go_wp2_with fail))
                        (try (refine hK _ _ ?_; clear hK K))
                        (try simp only [Act.put, List.getElem_toArray, List.getElem_cons_zero, List.getElem_cons_succ, List.setIfInBounds_toArray, List.set_cons_zero, List.set_cons_succ])
                        refine wpAny_ready (rs := [0, 4]) (by kernel_rfl) (by simp) ?_
                        refine AllReady.cons (o := ({ dst := some 66, op := Go.Op.load 37 (Go.Operand.tmp 2), type := 37, pos := "block.go:93", after := #[], guard := none } : Go.Oper)) rfl (fun K hK => ?one16) ?more16
                        case' one16 =>
                          go_simp
                          refine hK _ _ ?_
                          clear hK K
                          (try simp only [Act.put, List.getElem_toArray, List.getElem_cons_zero, List.getElem_cons_succ, List.setIfInBounds_toArray, List.set_cons_zero, List.set_cons_succ])
                          refine wpAny_ready (rs := [4]) (by kernel_rfl) (by simp) ?_
                          refine AllReady.cons (o := ({ dst := some 70, op := Go.Op.buildSlice 37 1 #[(0, Go.Operand.tmp 69)], type := 37, pos := "block.go:93", after := #[{ on := 3, ground := Go.Ground.data }], guard := none } : Go.Oper)) rfl (fun K hK => ?_) AllReady.nil
                          go_simp
                          refine hK _ _ ?_
                          clear hK K
                          (try simp only [Act.put, List.getElem_toArray, List.getElem_cons_zero, List.getElem_cons_succ, List.setIfInBounds_toArray, List.set_cons_zero, List.set_cons_succ])
                          refine wpAny_ready (rs := [5]) (by kernel_rfl) (by simp) ?_
                          refine AllReady.cons (o := ({ dst := some 71, op := Go.Op.call { callee := Go.Callee.builtin Go.Builtin.append, args := #[Go.Operand.tmp 66, Go.Operand.tmp 70], argTypes := #[37, 37] }, type := 37, pos := "block.go:93", after := #[{ on := 0, ground := Go.Ground.data }, { on := 4, ground := Go.Ground.data }, { on := 3, ground := Go.Ground.chain }], guard := none } : Go.Oper)) rfl (fun K hK => ?_) AllReady.nil
                          refine step_appF rfl _ _ rfl w.heap.size (.slice Al xs.length cl) xs rfl w6 28 ⟨A5, n5, c5, B5, m5, d5⟩ y rfl (HFq.out.kx K6 (by decide) (by decide)) (hfe.low (Ext.size (HXq.out.trans (by with_reducible (repeat (first | exact Ext.rfl_ _ | assumption | refine Ext.drew ?_ | refine Ext.drewN ?_ _ | refine Ext.alloc ?_ _ | refine Ext.trans ?_ (by assumption))))))) rfl (by omega) (Ext.size X6) ?_; intro v8 w8 o8 kx8 g8; have R38 := (HR3q.out.kx K6 (by decide) (by decide) (by decide)).kx kx8 (by decide) (by decide) (by decide); obtain ⟨k1, k2, k3, f1, f2, f3, hsz⟩ := R38.cells; obtain ⟨G8, c8, _, _, _, rfl, hc8, _, _⟩ := o8.last
                          refine hK _ _ ?_
                          clear hK K
                          (try simp only [Act.put, List.getElem_toArray, List.getElem_cons_zero, List.getElem_cons_succ, List.setIfInBounds_toArray, List.set_cons_zero, List.set_cons_succ])
                          refine wpAny_ready (rs := [6]) (by kernel_rfl) (by simp) ?_
                          refine AllReady.cons (o := ({ dst := none, op := Go.Op.store 37 (Go.Operand.tmp 2) (Go.Operand.tmp 71), type := 0, pos := "block.go:93", after := #[{ on := 5, ground := Go.Ground.data }, { on := 5, ground := Go.Ground.chain }, { on := 0, ground := Go.Ground.phase }, { on := 1, ground := Go.Ground.phase }, { on := 2, ground := Go.Ground.phase }, { on := 3, ground := Go.Ground.phase }, { on := 4, ground := Go.Ground.phase }, { on := 5, ground := Go.Ground.phase }], guard := none } : Go.Oper)) rfl (fun K hK => ?_) AllReady.nil
                          go_simp
                          refine hK _ _ ?_
                          clear hK K
                          (try simp only [Act.put, List.getElem_toArray, List.getElem_cons_zero, List.getElem_cons_succ, List.setIfInBounds_toArray, List.set_cons_zero, List.set_cons_succ])
                          refine wpAny_done (by kernel_rfl) ?_ _
                        case' more16 =>
                          refine AllReady.cons (o := ({ dst := some 70, op := Go.Op.buildSlice 37 1 #[(0, Go.Operand.tmp 69)], type := 37, pos := "block.go:93", after := #[{ on := 3, ground := Go.Ground.data }], guard := none } : Go.Oper)) rfl (fun K hK => ?_) AllReady.nil
                          go_simp
                          refine hK _ _ ?_
                          clear hK K
                          (try simp only [Act.put, List.getElem_toArray, List.getElem_cons_zero, List.getElem_cons_succ, List.setIfInBounds_toArray, List.set_cons_zero, List.set_cons_succ])
                          refine wpAny_ready (rs := [0]) (by kernel_rfl) (by simp) ?_
                          refine AllReady.cons (o := ({ dst := some 66, op := Go.Op.load 37 (Go.Operand.tmp 2), type := 37, pos := "block.go:93", after := #[], guard := none } : Go.Oper)) rfl (fun K hK => ?_) AllReady.nil
                          go_simp
                          refine hK _ _ ?_
                          clear hK K
                          (try simp only [Act.put, List.getElem_toArray, List.getElem_cons_zero, List.getElem_cons_succ, List.setIfInBounds_toArray, List.set_cons_zero, List.set_cons_succ])
                          refine wpAny_ready (rs := [5]) (by kernel_rfl) (by simp) ?_
                          refine AllReady.cons (o := ({ dst := some 71, op := Go.Op.call { callee := Go.Callee.builtin Go.Builtin.append, args := #[Go.Operand.tmp 66, Go.Operand.tmp 70], argTypes := #[37, 37] }, type := 37, pos := "block.go:93", after := #[{ on := 0, ground := Go.Ground.data }, { on := 4, ground := Go.Ground.data }, { on := 3, ground := Go.Ground.chain }], guard := none } : Go.Oper)) rfl (fun K hK => ?_) AllReady.nil
                          refine step_appF rfl _ _ rfl w.heap.size (.slice Al xs.length cl) xs rfl w6 28 ⟨A5, n5, c5, B5, m5, d5⟩ y rfl (HFq.out.kx K6 (by decide) (by decide)) (hfe.low (Ext.size (HXq.out.trans (by with_reducible (repeat (first | exact Ext.rfl_ _ | assumption | refine Ext.drew ?_ | refine Ext.drewN ?_ _ | refine Ext.alloc ?_ _ | refine Ext.trans ?_ (by assumption))))))) rfl (by omega) (Ext.size X6) ?_; intro v8 w8 o8 kx8 g8; have R38 := (HR3q.out.kx K6 (by decide) (by decide) (by decide)).kx kx8 (by decide) (by decide) (by decide); obtain ⟨k1, k2, k3, f1, f2, f3, hsz⟩ := R38.cells; obtain ⟨G8, c8, _, _, _, rfl, hc8, _, _⟩ := o8.last
                          refine hK _ _ ?_
                          clear hK K
                          (try simp only [Act.put, List.getElem_toArray, List.getElem_cons_zero, List.getElem_cons_succ, List.setIfInBounds_toArray, List.set_cons_zero, List.set_cons_succ])
                          refine wpAny_ready (rs := [6]) (by kernel_rfl) (by simp) ?_
                          refine AllReady.cons (o := ({ dst := none, op := Go.Op.store 37 (Go.Operand.tmp 2) (Go.Operand.tmp 71), type := 0, pos := "block.go:93", after := #[{ on := 5, ground := Go.Ground.data }, { on := 5, ground := Go.Ground.chain }, { on := 0, ground := Go.Ground.phase }, { on := 1, ground := Go.Ground.phase }, { on := 2, ground := Go.Ground.phase }, { on := 3, ground := Go.Ground.phase }, { on := 4, ground := Go.Ground.phase }, { on := 5, ground := Go.Ground.phase }], guard := none } : Go.Oper)) rfl (fun K hK => ?_) AllReady.nil
                          go_simp
                          refine hK _ _ ?_
                          clear hK K
                          (try simp only [Act.put, List.getElem_toArray, List.getElem_cons_zero, List.getElem_cons_succ, List.setIfInBounds_toArray, List.set_cons_zero, List.set_cons_succ])
                          refine wpAny_done (by kernel_rfl) ?_ _
                      all_goals
                        obtain ⟨w9, hw9⟩ : ∃ w9, w9 = w8.setCell ⟨w.heap.size, 0, none⟩ (.slice (some ⟨G8, 0, none⟩) (xs.length + 1) c8) := ⟨_, rfl⟩
                        have K9 : Kx 37 w8 w9 := by rw [hw9]; exact Kx.of_set R38.1
                        have R39 : R3 w.heap.size w9 (.slice (some ⟨G8, 0, none⟩) (xs.length + 1) c8) vaq 0 := by rw [hw9]; exact R38.set1 _
                        have X8 : Ext w w8 := Ext.grown (X6.trans (by with_reducible (repeat (first | exact Ext.rfl_ _ | assumption | refine Ext.drew ?_ | refine Ext.drewN ?_ _ | refine Ext.alloc ?_ _ | refine Ext.trans ?_ (by assumption))))) g8 (fun k hk => (HFq.out.lt k hk).1)
                        have X9 : Ext w w9 := by rw [hw9]; exact X8.setCell (Nat.le_refl _) _
                        have o9 := o8.kx K9 (by decide) (by decide)
                        obtain ⟨G9, c9, A9, n9, d9, hv9, hc9, hcell9, ho9⟩ := o9.last
                        obtain ⟨rfl, rfl⟩ : G8 = G9 ∧ c8 = c9 := by simpa using hv9
                        have I9 : OwnI w9 w.heap.size vaq psq := ((HIq.out.kx K6 (by decide)).kx kx8 (by decide)).kx K9 (by decide)
                        have D9 : Rdr w9 g r' := (hr6.kx kx8 (by decide) (by decide)).kx K9 (by decide) (by decide)
                        rw [← hw9]
                        have O9 := Lib.hid o9
                        have HR39 := Lib.hid R39
                        have HI9 := Lib.hid I9
                        have HD9 := Lib.hid D9
                        have HO9 := Lib.hid ho9
                        have HX9 := Lib.hid X9
                        obtain ⟨k1, k2, k3, f1, f2, f3, hsz⟩ := R39.cells
                        clear hw9 K9 R39 X8 X9 o9 I9 D9 o8 hr6 hf6 hfe kx8 g8 R38 K6 X6 hc6 ho9 hv9 hz0 hz1
                        have hci : ((xs.length : Int) + 1) ≤ (c8 : Int) := by omega
                        have hxc : xs.length < c8 := by omega
                        go_wp2
                        go_roundw
                        case rel =>
                          refine ⟨xs ++ [y], r', psq, _, _, HX9.out, HR39.out, O9.out, HI9.out, HD9.out, ?_, HBod.out.next hpe, fun l hl => HPsq.out y l hl, by simp; omega, by simp; omega, ?_⟩
                          · rw [keyL_snoc]; exact HO9.out
                          · rw [keyL_snoc]; simp; omega
                        case measure =>
                          have := R3.cells HR39.out
                          simp [sLen, k1, kw1]
                          omega
                  · go_wp2_with fail
                    have hlp : (ps ++ [(L : Int) - (rest.length : Int)]).length = ps.length + 1 := by simp
                    rw [hlp] at o7
                    obtain ⟨wq, hwq⟩ : ∃ wq, wq = w7.setCell ⟨w.heap.size + 1, 0, none⟩ (.slice A7 (ps.length + 1) c7) := ⟨_, rfl⟩
                    obtain ⟨vaq, hvaq⟩ : ∃ vaq, vaq = Value.slice A7 (ps.length + 1) c7 := ⟨_, rfl⟩
                    obtain ⟨psq, hpsq⟩ : ∃ psq, psq = ps ++ [(L : Int) - (rest.length : Int)] := ⟨_, rfl⟩
                    have hpl : psq.length ≤ xs.length + 1 := by rw [hpsq, hlp]; omega
                    have KQ : Kx 38 w7 wq := by rw [hwq]; exact Kx.of_set R37.2.1
                    have R3q : R3 w.heap.size wq (.slice Al xs.length cl) vaq 0 := by rw [hwq, hvaq]; exact R37.set2 _
                    have XQ : Ext w wq := by rw [hwq]; exact X7.setCell (by simp) _
                    have Iq : OwnI wq w.heap.size vaq psq := by rw [hvaq, hpsq]; exact o7.kx KQ (by decide)
                    have hPsq : ∀ (y : Ent) l, IsBlk b l → psq = posI (xs ++ [y]) := fun y l hl => by
                      rw [hpsq, HPs.out l hl]
                      unfold posI
                      rw [posB_snoc, if_pos r4, List.map_append, HBL.out l hl]
                      rfl
                    rw [← hwq]
                    have HPsq := Lib.hid hPsq
                    have HXq := Lib.hid XQ
                    have HR3q := Lib.hid R3q
                    have HFq := Lib.hid ((HF.out.kx K7 (by decide) (by decide)).kx KQ (by decide) (by decide))
                    have HRq := Lib.hid ((HR.out.kx K7 (by decide) (by decide)).kx KQ (by decide) (by decide))
                    have HBqO := (HBo.out.kx K7 (by decide)).kx KQ (by decide)
                    have HBq := Lib.hid (Rd.of_OwnB HBqO rfl)
                    have HIq := Lib.hid Iq
                    obtain ⟨k1, k2, k3, f1, f2, f3, hsz⟩ := R3q.cells
                    clear hwq hpsq hvaq hPsq XQ R3q Iq KQ K7 X7 R37 kx7 g7 o7 hz0 hz1 HBqO hlp
                    cases hpe : pEnt (keyL [] xs) rest with
                    | none =>
                      have hbad := HBod.out.bad hpe hre
                      have HBAD := Lib.hid hbad
                      clear hbad
                      refine wp_region_any (by kernel_rfl) ?_
                      (try (change wpAny _ _ _ _ _ _ _ (World.drew _)))
                      refine wpAny_take (i := 1) (oi := ({ dst := some 67, op := Go.Op.move (Go.Operand.tmp 7), type := 90, pos := "block.go:93", after := #[], guard := none } : Go.Oper)) (v := ?v17) rfl (by kernel_rfl) (by kernel_rfl) (by kernel_rfl) (fun _ _ _ h => openQ (by decide) (by decide) (by decide) h) (Or.inl ⟨by rfl, ?hy17⟩) ?rest17
                      case hy17 => (intro w; go_simp; (try with_reducible rfl))
                      (try simp only [Act.put, List.getElem_toArray, List.getElem_cons_zero, List.getElem_cons_succ, List.setIfInBounds_toArray, List.set_cons_zero, List.set_cons_succ])
                      refine wpAny_take (i := 2) (oi := ({ dst := some 68, op := Go.Op.move (Go.Operand.tmp 8), type := 22, pos := "block.go:93", after := #[], guard := none } : Go.Oper)) (v := ?v18) rfl (by kernel_rfl) (by kernel_rfl) (by kernel_rfl) (fun _ _ _ h => openQ (by decide) (by decide) (by decide) h) (Or.inl ⟨by rfl, ?hy18⟩) ?rest18
                      case hy18 => (intro w; go_simp; (try with_reducible rfl))
                      (try simp only [Act.put, List.getElem_toArray, List.getElem_cons_zero, List.getElem_cons_succ, List.setIfInBounds_toArray, List.set_cons_zero, List.set_cons_succ])
                      refine wpAny_ready (rs := [0, 3]) (by kernel_rfl) (by simp) ?_
                      refine AllReady.cons (o := ({ dst := some 66, op := Go.Op.load 37 (Go.Operand.tmp 2), type := 37, pos := "block.go:93", after := #[], guard := none } : Go.Oper)) rfl (fun K hK => ?one19) ?more19
                      case' one19 =>
                        go_simp
                        refine hK _ _ ?_
                        clear hK K
                        (try simp only [Act.put, List.getElem_toArray, List.getElem_cons_zero, List.getElem_cons_succ, List.setIfInBounds_toArray, List.set_cons_zero, List.set_cons_succ])
                        refine wpAny_ready (rs := [3]) (by kernel_rfl) (by simp) ?_
                        refine AllReady.cons (o := ({ dst := some 69, op := Go.Op.call { callee := Go.Callee.value (Go.Operand.func 60), args := #[Go.Operand.tmp 67, Go.Operand.tmp 68], argTypes := #[90, 22] }, type := 28, pos := "block.go:93", after := #[{ on := 1, ground := Go.Ground.data }, { on := 2, ground := Go.Ground.data }], guard := none } : Go.Oper)) rfl (fun K hK => ?_) AllReady.nil
                        go_simp
                        refine (entry_any g _ _ _ (keyL [] xs) rest _ (HRq.out.ext (by with_reducible (repeat (first | exact Ext.rfl_ _ | assumption | refine Ext.drew ?_ | refine Ext.drewN ?_ _ | refine Ext.alloc ?_ _ | refine Ext.trans ?_ (by assumption))))) (HBq.out.ext (by with_reducible (repeat (first | exact Ext.rfl_ _ | assumption | refine Ext.drew ?_ | refine Ext.drewN ?_ _ | refine Ext.alloc ?_ _ | refine Ext.trans ?_ (by assumption))))) hvm hv16).mono ?_; rintro e w6 ⟨h6, hc6⟩; rcases h6 with ⟨_, _, _, _, hp6, _⟩ | ⟨rfl, _⟩; exact absurd hp6 (by rw [hpe]; simp); exact door_bad (HR3q.out.kx (Kx.trans (Kx.of_ext (by with_reducible (repeat (first | exact Ext.rfl_ _ | assumption | refine Ext.drew ?_ | refine Ext.drewN ?_ _ | refine Ext.alloc ?_ _ | refine Ext.trans ?_ (by assumption))))) (Kx.of_rdr hc6 (HRq.out.ext (by with_reducible (repeat (first | exact Ext.rfl_ _ | assumption | refine Ext.drew ?_ | refine Ext.drewN ?_ _ | refine Ext.alloc ?_ _ | refine Ext.trans ?_ (by assumption))))))) (by decide) (by decide) (by decide)) (HXq.out.chg ((Chg.of_ext (by with_reducible (repeat (first | exact Ext.rfl_ _ | assumption | refine Ext.drew ?_ | refine Ext.drewN ?_ _ | refine Ext.alloc ?_ _ | refine Ext.trans ?_ (by assumption))))).trans hc6) hg0) HBAD.out rfl rfl rfl
                      case' more19 =>
                        refine AllReady.cons (o := ({ dst := some 69, op := Go.Op.call { callee := Go.Callee.value (Go.Operand.func 60), args := #[Go.Operand.tmp 67, Go.Operand.tmp 68], argTypes := #[90, 22] }, type := 28, pos := "block.go:93", after := #[{ on := 1, ground := Go.Ground.data }, { on := 2, ground := Go.Ground.data }], guard := none } : Go.Oper)) rfl (fun K hK => ?_) AllReady.nil
                        go_simp
                        refine (entry_any g _ _ _ (keyL [] xs) rest _ (HRq.out.ext (by with_reducible (repeat (first | exact Ext.rfl_ _ | assumption | refine Ext.drew ?_ | refine Ext.drewN ?_ _ | refine Ext.alloc ?_ _ | refine Ext.trans ?_ (by assumption))))) (HBq.out.ext (by with_reducible (repeat (first | exact Ext.rfl_ _ | assumption | refine Ext.drew ?_ | refine Ext.drewN ?_ _ | refine Ext.alloc ?_ _ | refine Ext.trans ?_ (by assumption))))) hvm hv16).mono ?_; rintro e w6 ⟨h6, hc6⟩; rcases h6 with ⟨_, _, _, _, hp6, _⟩ | ⟨rfl, _⟩; exact absurd hp6 (by rw [hpe]; simp); exact door_bad (HR3q.out.kx (Kx.trans (Kx.of_ext (by with_reducible (repeat (first | exact Ext.rfl_ _ | assumption | refine Ext.drew ?_ | refine Ext.drewN ?_ _ | refine Ext.alloc ?_ _ | refine Ext.trans ?_ (by assumption))))) (Kx.of_rdr hc6 (HRq.out.ext (by with_reducible (repeat (first | exact Ext.rfl_ _ | assumption | refine Ext.drew ?_ | refine Ext.drewN ?_ _ | refine Ext.alloc ?_ _ | refine Ext.trans ?_ (by assumption))))))) (by decide) (by decide) (by decide)) (HXq.out.chg ((Chg.of_ext (by with_reducible (repeat (first | exact Ext.rfl_ _ | assumption | refine Ext.drew ?_ | refine Ext.drewN ?_ _ | refine Ext.alloc ?_ _ | refine Ext.trans ?_ (by assumption))))).trans hc6) hg0) HBAD.out rfl rfl rfl
                    | some q =>
                      obtain ⟨y, r'⟩ := q
                      have hyk := pEnt_key hpe
                      refine wp_region_any (by kernel_rfl) ?_
                      (try (change wpAny _ _ _ _ _ _ _ (World.drew _)))
                      refine wpAny_take (i := 1) (oi := ({ dst := some 67, op := Go.Op.move (Go.Operand.tmp 7), type := 90, pos := "block.go:93", after := #[], guard := none } : Go.Oper)) (v := ?v20) rfl (by kernel_rfl) (by kernel_rfl) (by kernel_rfl) (fun _ _ _ h => openQ (by decide) (by decide) (by decide) h) (Or.inl ⟨by rfl, ?hy20⟩) ?rest20
                      case hy20 => (intro w; go_simp; (try with_reducible rfl))
                      (try simp only [Act.put, List.getElem_toArray, List.getElem_cons_zero, List.getElem_cons_succ, List.setIfInBounds_toArray, List.set_cons_zero, List.set_cons_succ])
                      refine wpAny_take (i := 2) (oi := ({ dst := some 68, op := Go.Op.move (Go.Operand.tmp 8), type := 22, pos := "block.go:93", after := #[], guard := none } : Go.Oper)) (v := ?v21) rfl (by kernel_rfl) (by kernel_rfl) (by kernel_rfl) (fun _ _ _ h => openQ (by decide) (by decide) (by decide) h) (Or.inl ⟨by rfl, ?hy21⟩) ?rest21
                      case hy21 => (intro w; go_simp; (try with_reducible rfl))
                      (try simp only [Act.put, List.getElem_toArray, List.getElem_cons_zero, List.getElem_cons_succ, List.setIfInBounds_toArray, List.set_cons_zero, List.set_cons_succ])
                      refine wpAny_ready (rs := [0, 3]) (by kernel_rfl) (by simp) ?_
                      refine AllReady.cons (o := ({ dst := some 66, op := Go.Op.load 37 (Go.Operand.tmp 2), type := 37, pos := "block.go:93", after := #[], guard := none } : Go.Oper)) rfl (fun K hK => ?one22) ?more22
                      case' one22 =>
                        go_simp
                        refine hK _ _ ?_
                        clear hK K
                        (try simp only [Act.put, List.getElem_toArray, List.getElem_cons_zero, List.getElem_cons_succ, List.setIfInBounds_toArray, List.set_cons_zero, List.set_cons_succ])
                        refine wpAny_ready (rs := [3]) (by kernel_rfl) (by simp) ?_
                        refine AllReady.cons (o := ({ dst := some 69, op := Go.Op.call { callee := Go.Callee.value (Go.Operand.func 60), args := #[Go.Operand.tmp 67, Go.Operand.tmp 68], argTypes := #[90, 22] }, type := 28, pos := "block.go:93", after := #[{ on := 1, ground := Go.Ground.data }, { on := 2, ground := Go.Ground.data }], guard := none } : Go.Oper)) rfl (fun K hK => ?_) AllReady.nil
                        go_simp
                        refine (entry_any g _ _ _ (keyL [] xs) rest _ (HRq.out.ext (by with_reducible (repeat (first | exact Ext.rfl_ _ | assumption | refine Ext.drew ?_ | refine Ext.drewN ?_ _ | refine Ext.alloc ?_ _ | refine Ext.trans ?_ (by assumption))))) (HBq.out.ext (by with_reducible (repeat (first | exact Ext.rfl_ _ | assumption | refine Ext.drew ?_ | refine Ext.drewN ?_ _ | refine Ext.alloc ?_ _ | refine Ext.trans ?_ (by assumption))))) hvm hv16).mono ?_; rintro e w6 ⟨h6, hc6⟩; rcases h6 with ⟨v6, y6, q6, rfl, hp6, hf6, hr6⟩ | ⟨_, hp6⟩; rotate_left; exact absurd hp6 (by rw [hpe]; simp); rw [hpe] at hp6; obtain ⟨rfl, rfl⟩ := (Prod.mk.inj (Option.some.inj hp6)); obtain ⟨A5, n5, c5, B5, m5, d5, rfl, hfe⟩ := frE_cells hf6; have K6 : Kx 105 wq w6 := Kx.trans (Kx.of_ext (by with_reducible (repeat (first | exact Ext.rfl_ _ | assumption | refine Ext.drew ?_ | refine Ext.drewN ?_ _ | refine Ext.alloc ?_ _ | refine Ext.trans ?_ (by assumption))))) (Kx.of_rdr hc6 (HRq.out.ext (by with_reducible (repeat (first | exact Ext.rfl_ _ | assumption | refine Ext.drew ?_ | refine Ext.drewN ?_ _ | refine Ext.alloc ?_ _ | refine Ext.trans ?_ (by assumption)))))); have X6 : Ext w w6 := (HXq.out.chg ((Chg.of_ext (by with_reducible (repeat (first | exact Ext.rfl_ _ | assumption | refine Ext.drew ?_ | refine Ext.drewN ?_ _ | refine Ext.alloc ?_ _ | refine Ext.trans ?_ (by assumption))))).trans hc6) hg0); obtain ⟨k1, k2, k3, f1, f2, f3, hsz⟩ := (HR3q.out.kx K6 (by decide) (by decide) (by decide)).cells; have hz0 : w.heap.size < w6.heap.size := (by omega); have hz1 : w.heap.size + 1 < w6.heap.size := (by omega)
                        (try (go_wp2_with fail))
                        (try (refine hK _ _ ?_; clear hK K))
                        (try simp only [Act.put, List.getElem_toArray, List.getElem_cons_zero, List.getElem_cons_succ, List.setIfInBounds_toArray, List.set_cons_zero, List.set_cons_succ])
                        refine wpAny_ready (rs := [4]) (by kernel_rfl) (by simp) ?_
                        refine AllReady.cons (o := ({ dst := some 70, op := Go.Op.buildSlice 37 1 #[(0, Go.Operand.tmp 69)], type := 37, pos := "block.go:93", after := #[{ on := 3, ground := Go.Ground.data }], guard := none } : Go.Oper)) rfl (fun K hK => ?_) AllReady.nil
                        go_simp
                        refine hK _ _ ?_
                        clear hK K
                        (try simp only [Act.put, List.getElem_toArray, List.getElem_cons_zero, List.getElem_cons_succ, List.setIfInBounds_toArray, List.set_cons_zero, List.set_cons_succ])
                        refine wpAny_ready (rs := [5]) (by kernel_rfl) (by simp) ?_
                        refine AllReady.cons (o := ({ dst := some 71, op := Go.Op.call { callee := Go.Callee.builtin Go.Builtin.append, args := #[Go.Operand.tmp 66, Go.Operand.tmp 70], argTypes := #[37, 37] }, type := 37, pos := "block.go:93", after := #[{ on := 0, ground := Go.Ground.data }, { on := 4, ground := Go.Ground.data }, { on := 3, ground := Go.Ground.chain }], guard := none } : Go.Oper)) rfl (fun K hK => ?_) AllReady.nil
                        refine step_appF rfl _ _ rfl w.heap.size (.slice Al xs.length cl) xs rfl w6 28 ⟨A5, n5, c5, B5, m5, d5⟩ y rfl (HFq.out.kx K6 (by decide) (by decide)) (hfe.low (Ext.size (HXq.out.trans (by with_reducible (repeat (first | exact Ext.rfl_ _ | assumption | refine Ext.drew ?_ | refine Ext.drewN ?_ _ | refine Ext.alloc ?_ _ | refine Ext.trans ?_ (by assumption))))))) rfl (by omega) (Ext.size X6) ?_; intro v8 w8 o8 kx8 g8; have R38 := (HR3q.out.kx K6 (by decide) (by decide) (by decide)).kx kx8 (by decide) (by decide) (by decide); obtain ⟨k1, k2, k3, f1, f2, f3, hsz⟩ := R38.cells; obtain ⟨G8, c8, _, _, _, rfl, hc8, _, _⟩ := o8.last
                        refine hK _ _ ?_
                        clear hK K
                        (try simp only [Act.put, List.getElem_toArray, List.getElem_cons_zero, List.getElem_cons_succ, List.setIfInBounds_toArray, List.set_cons_zero, List.set_cons_succ])
                        refine wpAny_ready (rs := [6]) (by kernel_rfl) (by simp) ?_
                        refine AllReady.cons (o := ({ dst := none, op := Go.Op.store 37 (Go.Operand.tmp 2) (Go.Operand.tmp 71), type := 0, pos := "block.go:93", after := #[{ on := 5, ground := Go.Ground.data }, { on := 5, ground := Go.Ground.chain }, { on := 0, ground := Go.Ground.phase }, { on := 1, ground := Go.Ground.phase }, { on := 2, ground := Go.Ground.phase }, { on := 3, ground := Go.Ground.phase }, { on := 4, ground := Go.Ground.phase }, { on := 5, ground := Go.Ground.phase }], guard := none } : Go.Oper)) rfl (fun K hK => ?_) AllReady.nil
                        go_simp
                        refine hK _ _ ?_
                        clear hK K
                        (try simp only [Act.put, List.getElem_toArray, List.getElem_cons_zero, List.getElem_cons_succ, List.setIfInBounds_toArray, List.set_cons_zero, List.set_cons_succ])
                        refine wpAny_done (by kernel_rfl) ?_ _
                      case' more22 =>
                        refine AllReady.cons (o := ({ dst := some 69, op := Go.Op.call { callee := Go.Callee.value (Go.Operand.func 60), args := #[Go.Operand.tmp 67, Go.Operand.tmp 68], argTypes := #[90, 22] }, type := 28, pos := "block.go:93", after := #[{ on := 1, ground := Go.Ground.data }, { on := 2, ground := Go.Ground.data }], guard := none } : Go.Oper)) rfl (fun K hK => ?_) AllReady.nil
                        go_simp
                        refine (entry_any g _ _ _ (keyL [] xs) rest _ (HRq.out.ext (by with_reducible (repeat (first | exact Ext.rfl_ _ | assumption | refine Ext.drew ?_ | refine Ext.drewN ?_ _ | refine Ext.alloc ?_ _ | refine Ext.trans ?_ (by assumption))))) (HBq.out.ext (by with_reducible (repeat (first | exact Ext.rfl_ _ | assumption | refine Ext.drew ?_ | refine Ext.drewN ?_ _ | refine Ext.alloc ?_ _ | refine Ext.trans ?_ (by assumption))))) hvm hv16).mono ?_; rintro e w6 ⟨h6, hc6⟩; rcases h6 with ⟨v6, y6, q6, rfl, hp6, hf6, hr6⟩ | ⟨_, hp6⟩; rotate_left; exact absurd hp6 (by rw [hpe]; simp); rw [hpe] at hp6; obtain ⟨rfl, rfl⟩ := (Prod.mk.inj (Option.some.inj hp6)); obtain ⟨A5, n5, c5, B5, m5, d5, rfl, hfe⟩ := frE_cells hf6; have K6 : Kx 105 wq w6 := Kx.trans (Kx.of_ext (by with_reducible (repeat (first | exact Ext.rfl_ _ | assumption | refine Ext.drew ?_ | refine Ext.drewN ?_ _ | refine Ext.alloc ?_ _ | refine Ext.trans ?_ (by assumption))))) (Kx.of_rdr hc6 (HRq.out.ext (by with_reducible (repeat (first | exact Ext.rfl_ _ | assumption | refine Ext.drew ?_ | refine Ext.drewN ?_ _ | refine Ext.alloc ?_ _ | refine Ext.trans ?_ (by assumption)))))); have X6 : Ext w w6 := (HXq.out.chg ((Chg.of_ext (by with_reducible (repeat (first | exact Ext.rfl_ _ | assumption | refine Ext.drew ?_ | refine Ext.drewN ?_ _ | refine Ext.alloc ?_ _ | refine Ext.trans ?_ (by assumption))))).trans hc6) hg0); obtain ⟨k1, k2, k3, f1, f2, f3, hsz⟩ := (HR3q.out.kx K6 (by decide) (by decide) (by decide)).cells; have hz0 : w.heap.size < w6.heap.size := (by omega); have hz1 : w.heap.size + 1 < w6.heap.size := (by omega)
                        (try (go_wp2_with fail))
                        (try (refine hK _ _ ?_; clear hK K))
                        (try simp only [Act.put, List.getElem_toArray, List.getElem_cons_zero, List.getElem_cons_succ, List.setIfInBounds_toArray, List.set_cons_zero, List.set_cons_succ])
                        refine wpAny_ready (rs := [0, 4]) (by kernel_rfl) (by simp) ?_
                        refine AllReady.cons (o := ({ dst := some 66, op := Go.Op.load 37 (Go.Operand.tmp 2), type := 37, pos := "block.go:93", after := #[], guard := none } : Go.Oper)) rfl (fun K hK => ?one23) ?more23
                        case' one23 =>
                          go_simp
                          refine hK _ _ ?_
                          clear hK K
                          (try simp only [Act.put, List.getElem_toArray, List.getElem_cons_zero, List.getElem_cons_succ, List.setIfInBounds_toArray, List.set_cons_zero, List.set_cons_succ])
                          refine wpAny_ready (rs := [4]) (by kernel_rfl) (by simp) ?_
                          refine AllReady.cons (o := ({ dst := some 70, op := Go.Op.buildSlice 37 1 #[(0, Go.Operand.tmp 69)], type := 37, pos := "block.go:93", after := #[{ on := 3, ground := Go.Ground.data }], guard := none } : Go.Oper)) rfl (fun K hK => ?_) AllReady.nil
                          go_simp
                          refine hK _ _ ?_
                          clear hK K
                          (try simp only [Act.put, List.getElem_toArray, List.getElem_cons_zero, List.getElem_cons_succ, List.setIfInBounds_toArray, List.set_cons_zero, List.set_cons_succ])
                          refine wpAny_ready (rs := [5]) (by kernel_rfl) (by simp) ?_
                          refine AllReady.cons (o := ({ dst := some 71, op := Go.Op.call { callee := Go.Callee.builtin Go.Builtin.append, args := #[Go.Operand.tmp 66, Go.Operand.tmp 70], argTypes := #[37, 37] }, type := 37, pos := "block.go:93", after := #[{ on := 0, ground := Go.Ground.data }, { on := 4, ground := Go.Ground.data }, { on := 3, ground := Go.Ground.chain }], guard := none } : Go.Oper)) rfl (fun K hK => ?_) AllReady.nil
                          refine step_appF rfl _ _ rfl w.heap.size (.slice Al xs.length cl) xs rfl w6 28 ⟨A5, n5, c5, B5, m5, d5⟩ y rfl (HFq.out.kx K6 (by decide) (by decide)) (hfe.low (Ext.size (HXq.out.trans (by with_reducible (repeat (first | exact Ext.rfl_ _ | assumption | refine Ext.drew ?_ | refine Ext.drewN ?_ _ | refine Ext.alloc ?_ _ | refine Ext.trans ?_ (by assumption))))))) rfl (by omega) (Ext.size X6) ?_; intro v8 w8 o8 kx8 g8; have R38 := (HR3q.out.kx K6 (by decide) (by decide) (by decide)).kx kx8 (by decide) (by decide) (by decide); obtain ⟨k1, k2, k3, f1, f2, f3, hsz⟩ := R38.cells; obtain ⟨G8, c8, _, _, _, rfl, hc8, _, _⟩ := o8.last
                          refine hK _ _ ?_
                          clear hK K
                          (try simp only [Act.put, List.getElem_toArray, List.getElem_cons_zero, List.getElem_cons_succ, List.setIfInBounds_toArray, List.set_cons_zero, List.set_cons_succ])
                          refine wpAny_ready (rs := [6]) (by kernel_rfl) (by simp) ?_
                          refine AllReady.cons (o := ({ dst := none, op := Go.Op.store 37 (Go.Operand.tmp 2) (Go.Operand.tmp 71), type := 0, pos := "block.go:93", after := #[{ on := 5, ground := Go.Ground.data }, { on := 5, ground := Go.Ground.chain }, { on := 0, ground := Go.Ground.phase }, { on := 1, ground := Go.Ground.phase }, { on := 2, ground := Go.Ground.phase }, { on := 3, ground := Go.Ground.phase }, { on := 4, ground := Go.Ground.phase }, { on := 5, ground := Go.Ground.phase }], guard := none } : Go.Oper)) rfl (fun K hK => ?_) AllReady.nil
                          go_simp
                          refine hK _ _ ?_
                          clear hK K
                          (try simp only [Act.put, List.getElem_toArray, List.getElem_cons_zero, List.getElem_cons_succ, List.setIfInBounds_toArray, List.set_cons_zero, List.set_cons_succ])
                          refine wpAny_done (by kernel_rfl) ?_ _
                        case' more23 =>
                          refine AllReady.cons (o := ({ dst := some 70, op := Go.Op.buildSlice 37 1 #[(0, Go.Operand.tmp 69)], type := 37, pos := "block.go:93", after := #[{ on := 3, ground := Go.Ground.data }], guard := none } : Go.Oper)) rfl (fun K hK => ?_) AllReady.nil
                          go_simp
                          refine hK _ _ ?_
                          clear hK K
                          (try simp only [Act.put, List.getElem_toArray, List.getElem_cons_zero, List.getElem_cons_succ, List.setIfInBounds_toArray, List.set_cons_zero, List.set_cons_succ])
                          refine wpAny_ready (rs := [0]) (by kernel_rfl) (by simp) ?_
                          refine AllReady.cons (o := ({ dst := some 66, op := Go.Op.load 37 (Go.Operand.tmp 2), type := 37, pos := "block.go:93", after := #[], guard := none } : Go.Oper)) rfl (fun K hK => ?_) AllReady.nil
                          go_simp
                          refine hK _ _ ?_
                          clear hK K
                          (try simp only [Act.put, List.getElem_toArray, List.getElem_cons_zero, List.getElem_cons_succ, List.setIfInBounds_toArray, List.set_cons_zero, List.set_cons_succ])
                          refine wpAny_ready (rs := [5]) (by kernel_rfl) (by simp) ?_
                          refine AllReady.cons (o := ({ dst := some 71, op := Go.Op.call { callee := Go.Callee.builtin Go.Builtin.append, args := #[Go.Operand.tmp 66, Go.Operand.tmp 70], argTypes := #[37, 37] }, type := 37, pos := "block.go:93", after := #[{ on := 0, ground := Go.Ground.data }, { on := 4, ground := Go.Ground.data }, { on := 3, ground := Go.Ground.chain }], guard := none } : Go.Oper)) rfl (fun K hK => ?_) AllReady.nil
                          refine step_appF rfl _ _ rfl w.heap.size (.slice Al xs.length cl) xs rfl w6 28 ⟨A5, n5, c5, B5, m5, d5⟩ y rfl (HFq.out.kx K6 (by decide) (by decide)) (hfe.low (Ext.size (HXq.out.trans (by with_reducible (repeat (first | exact Ext.rfl_ _ | assumption | refine Ext.drew ?_ | refine Ext.drewN ?_ _ | refine Ext.alloc ?_ _ | refine Ext.trans ?_ (by assumption))))))) rfl (by omega) (Ext.size X6) ?_; intro v8 w8 o8 kx8 g8; have R38 := (HR3q.out.kx K6 (by decide) (by decide) (by decide)).kx kx8 (by decide) (by decide) (by decide); obtain ⟨k1, k2, k3, f1, f2, f3, hsz⟩ := R38.cells; obtain ⟨G8, c8, _, _, _, rfl, hc8, _, _⟩ := o8.last
                          refine hK _ _ ?_
                          clear hK K
                          (try simp only [Act.put, List.getElem_toArray, List.getElem_cons_zero, List.getElem_cons_succ, List.setIfInBounds_toArray, List.set_cons_zero, List.set_cons_succ])
                          refine wpAny_ready (rs := [6]) (by kernel_rfl) (by simp) ?_
                          refine AllReady.cons (o := ({ dst := none, op := Go.Op.store 37 (Go.Operand.tmp 2) (Go.Operand.tmp 71), type := 0, pos := "block.go:93", after := #[{ on := 5, ground := Go.Ground.data }, { on := 5, ground := Go.Ground.chain }, { on := 0, ground := Go.Ground.phase }, { on := 1, ground := Go.Ground.phase }, { on := 2, ground := Go.Ground.phase }, { on := 3, ground := Go.Ground.phase }, { on := 4, ground := Go.Ground.phase }, { on := 5, ground := Go.Ground.phase }], guard := none } : Go.Oper)) rfl (fun K hK => ?_) AllReady.nil
                          go_simp
                          refine hK _ _ ?_
                          clear hK K
                          (try simp only [Act.put, List.getElem_toArray, List.getElem_cons_zero, List.getElem_cons_succ, List.setIfInBounds_toArray, List.set_cons_zero, List.set_cons_succ])
                          refine wpAny_done (by kernel_rfl) ?_ _
                      all_goals
                        obtain ⟨w9, hw9⟩ : ∃ w9, w9 = w8.setCell ⟨w.heap.size, 0, none⟩ (.slice (some ⟨G8, 0, none⟩) (xs.length + 1) c8) := ⟨_, rfl⟩
                        have K9 : Kx 37 w8 w9 := by rw [hw9]; exact Kx.of_set R38.1
                        have R39 : R3 w.heap.size w9 (.slice (some ⟨G8, 0, none⟩) (xs.length + 1) c8) vaq 0 := by rw [hw9]; exact R38.set1 _
                        have X8 : Ext w w8 := Ext.grown (X6.trans (by with_reducible (repeat (first | exact Ext.rfl_ _ | assumption | refine Ext.drew ?_ | refine Ext.drewN ?_ _ | refine Ext.alloc ?_ _ | refine Ext.trans ?_ (by assumption))))) g8 (fun k hk => (HFq.out.lt k hk).1)
                        have X9 : Ext w w9 := by rw [hw9]; exact X8.setCell (Nat.le_refl _) _
                        have o9 := o8.kx K9 (by decide) (by decide)
                        obtain ⟨G9, c9, A9, n9, d9, hv9, hc9, hcell9, ho9⟩ := o9.last
                        obtain ⟨rfl, rfl⟩ : G8 = G9 ∧ c8 = c9 := by simpa using hv9
                        have I9 : OwnI w9 w.heap.size vaq psq := ((HIq.out.kx K6 (by decide)).kx kx8 (by decide)).kx K9 (by decide)
                        have D9 : Rdr w9 g r' := (hr6.kx kx8 (by decide) (by decide)).kx K9 (by decide) (by decide)
                        rw [← hw9]
                        have O9 := Lib.hid o9
                        have HR39 := Lib.hid R39
                        have HI9 := Lib.hid I9
                        have HD9 := Lib.hid D9
                        have HO9 := Lib.hid ho9
                        have HX9 := Lib.hid X9
                        obtain ⟨k1, k2, k3, f1, f2, f3, hsz⟩ := R39.cells
                        clear hw9 K9 R39 X8 X9 o9 I9 D9 o8 hr6 hf6 hfe kx8 g8 R38 K6 X6 hc6 ho9 hv9 hz0 hz1
                        have hci : ((xs.length : Int) + 1) ≤ (c8 : Int) := by omega
                        have hxc : xs.length < c8 := by omega
                        go_wp2
                        go_roundw
                        case rel =>
                          refine ⟨xs ++ [y], r', psq, _, _, HX9.out, HR39.out, O9.out, HI9.out, HD9.out, ?_, HBod.out.next hpe, fun l hl => HPsq.out y l hl, by simp; omega, by simp; omega, ?_⟩
                          · rw [keyL_snoc]; exact HO9.out
                          · rw [keyL_snoc]; simp; omega
                        case measure =>
                          have := R3.cells HR39.out
                          simp [sLen, k1, kw1]
                          omega
                  · go_wp2_with fail
                    have hlp : (ps ++ [(L : Int) - (rest.length : Int)]).length = ps.length + 1 := by simp
                    rw [hlp] at o7
                    obtain ⟨wq, hwq⟩ : ∃ wq, wq = w7.setCell ⟨w.heap.size + 1, 0, none⟩ (.slice A7 (ps.length + 1) c7) := ⟨_, rfl⟩
                    obtain ⟨vaq, hvaq⟩ : ∃ vaq, vaq = Value.slice A7 (ps.length + 1) c7 := ⟨_, rfl⟩
                    obtain ⟨psq, hpsq⟩ : ∃ psq, psq = ps ++ [(L : Int) - (rest.length : Int)] := ⟨_, rfl⟩
                    have hpl : psq.length ≤ xs.length + 1 := by rw [hpsq, hlp]; omega
                    have KQ : Kx 38 w7 wq := by rw [hwq]; exact Kx.of_set R37.2.1
                    have R3q : R3 w.heap.size wq (.slice Al xs.length cl) vaq 0 := by rw [hwq, hvaq]; exact R37.set2 _
                    have XQ : Ext w wq := by rw [hwq]; exact X7.setCell (by simp) _
                    have Iq : OwnI wq w.heap.size vaq psq := by rw [hvaq, hpsq]; exact o7.kx KQ (by decide)
                    have hPsq : ∀ (y : Ent) l, IsBlk b l → psq = posI (xs ++ [y]) := fun y l hl => by
                      rw [hpsq, HPs.out l hl]
                      unfold posI
                      rw [posB_snoc, if_pos r4, List.map_append, HBL.out l hl]
                      rfl
                    rw [← hwq]
                    have HPsq := Lib.hid hPsq
                    have HXq := Lib.hid XQ
                    have HR3q := Lib.hid R3q
                    have HFq := Lib.hid ((HF.out.kx K7 (by decide) (by decide)).kx KQ (by decide) (by decide))
                    have HRq := Lib.hid ((HR.out.kx K7 (by decide) (by decide)).kx KQ (by decide) (by decide))
                    have HBqO := (HBo.out.kx K7 (by decide)).kx KQ (by decide)
                    have HBq := Lib.hid (Rd.of_OwnB HBqO rfl)
                    have HIq := Lib.hid Iq
                    obtain ⟨k1, k2, k3, f1, f2, f3, hsz⟩ := R3q.cells
                    clear hwq hpsq hvaq hPsq XQ R3q Iq KQ K7 X7 R37 kx7 g7 o7 hz0 hz1 HBqO hlp
                    cases hpe : pEnt (keyL [] xs) rest with
                    | none =>
                      have hbad := HBod.out.bad hpe hre
                      have HBAD := Lib.hid hbad
                      clear hbad
                      refine wp_region_any (by kernel_rfl) ?_
                      (try (change wpAny _ _ _ _ _ _ _ (World.drew _)))
                      refine wpAny_take (i := 1) (oi := ({ dst := some 67, op := Go.Op.move (Go.Operand.tmp 7), type := 90, pos := "block.go:93", after := #[], guard := none } : Go.Oper)) (v := ?v24) rfl (by kernel_rfl) (by kernel_rfl) (by kernel_rfl) (fun _ _ _ h => openQ (by decide) (by decide) (by decide) h) (Or.inl ⟨by rfl, ?hy24⟩) ?rest24
                      case hy24 => (intro w; go_simp; (try with_reducible rfl))
                      (try simp only [Act.put, List.getElem_toArray, List.getElem_cons_zero, List.getElem_cons_succ, List.setIfInBounds_toArray, List.set_cons_zero, List.set_cons_succ])
                      refine wpAny_take (i := 2) (oi := ({ dst := some 68, op := Go.Op.move (Go.Operand.tmp 8), type := 22, pos := "block.go:93", after := #[], guard := none } : Go.Oper)) (v := ?v25) rfl (by kernel_rfl) (by kernel_rfl) (by kernel_rfl) (fun _ _ _ h => openQ (by decide) (by decide) (by decide) h) (Or.inl ⟨by rfl, ?hy25⟩) ?rest25
                      case hy25 => (intro w; go_simp; (try with_reducible rfl))
                      (try simp only [Act.put, List.getElem_toArray, List.getElem_cons_zero, List.getElem_cons_succ, List.setIfInBounds_toArray, List.set_cons_zero, List.set_cons_succ])
                      refine wpAny_ready (rs := [0, 3]) (by kernel_rfl) (by simp) ?_
                      refine AllReady.cons (o := ({ dst := some 66, op := Go.Op.load 37 (Go.Operand.tmp 2), type := 37, pos := "block.go:93", after := #[], guard := none } : Go.Oper)) rfl (fun K hK => ?one26) ?more26
                      case' one26 =>
                        go_simp
                        refine hK _ _ ?_
                        clear hK K
                        (try simp only [Act.put, List.getElem_toArray, List.getElem_cons_zero, List.getElem_cons_succ, List.setIfInBounds_toArray, List.set_cons_zero, List.set_cons_succ])
                        refine wpAny_ready (rs := [3]) (by kernel_rfl) (by simp) ?_
                        refine AllReady.cons (o := ({ dst := some 69, op := Go.Op.call { callee := Go.Callee.value (Go.Operand.func 60), args := #[Go.Operand.tmp 67, Go.Operand.tmp 68], argTypes := #[90, 22] }, type := 28, pos := "block.go:93", after := #[{ on := 1, ground := Go.Ground.data }, { on := 2, ground := Go.Ground.data }], guard := none } : Go.Oper)) rfl (fun K hK => ?_) AllReady.nil
                        go_simp
                        refine (entry_any g _ _ _ (keyL [] xs) rest _ (HRq.out.ext (by with_reducible (repeat (first | exact Ext.rfl_ _ | assumption | refine Ext.drew ?_ | refine Ext.drewN ?_ _ | refine Ext.alloc ?_ _ | refine Ext.trans ?_ (by assumption))))) (HBq.out.ext (by with_reducible (repeat (first | exact Ext.rfl_ _ | assumption | refine Ext.drew ?_ | refine Ext.drewN ?_ _ | refine Ext.alloc ?_ _ | refine Ext.trans ?_ (by assumption))))) hvm hv16).mono ?_; rintro e w6 ⟨h6, hc6⟩; rcases h6 with ⟨_, _, _, _, hp6, _⟩ | ⟨rfl, _⟩; exact absurd hp6 (by rw [hpe]; simp); exact door_bad (HR3q.out.kx (Kx.trans (Kx.of_ext (by with_reducible (repeat (first | exact Ext.rfl_ _ | assumption | refine Ext.drew ?_ | refine Ext.drewN ?_ _ | refine Ext.alloc ?_ _ | refine Ext.trans ?_ (by assumption))))) (Kx.of_rdr hc6 (HRq.out.ext (by with_reducible (repeat (first | exact Ext.rfl_ _ | assumption | refine Ext.drew ?_ | refine Ext.drewN ?_ _ | refine Ext.alloc ?_ _ | refine Ext.trans ?_ (by assumption))))))) (by decide) (by decide) (by decide)) (HXq.out.chg ((Chg.of_ext (by with_reducible (repeat (first | exact Ext.rfl_ _ | assumption | refine Ext.drew ?_ | refine Ext.drewN ?_ _ | refine Ext.alloc ?_ _ | refine Ext.trans ?_ (by assumption))))).trans hc6) hg0) HBAD.out rfl rfl rfl
                      case' more26 =>
                        refine AllReady.cons (o := ({ dst := some 69, op := Go.Op.call { callee := Go.Callee.value (Go.Operand.func 60), args := #[Go.Operand.tmp 67, Go.Operand.tmp 68], argTypes := #[90, 22] }, type := 28, pos := "block.go:93", after := #[{ on := 1, ground := Go.Ground.data }, { on := 2, ground := Go.Ground.data }], guard := none } : Go.Oper)) rfl (fun K hK => ?_) AllReady.nil
                        go_simp
                        refine (entry_any g _ _ _ (keyL [] xs) rest _ (HRq.out.ext (by with_reducible (repeat (first | exact Ext.rfl_ _ | assumption | refine Ext.drew ?_ | refine Ext.drewN ?_ _ | refine Ext.alloc ?_ _ | refine Ext.trans ?_ (by assumption))))) (HBq.out.ext (by with_reducible (repeat (first | exact Ext.rfl_ _ | assumption | refine Ext.drew ?_ | refine Ext.drewN ?_ _ | refine Ext.alloc ?_ _ | refine Ext.trans ?_ (by assumption))))) hvm hv16).mono ?_; rintro e w6 ⟨h6, hc6⟩; rcases h6 with ⟨_, _, _, _, hp6, _⟩ | ⟨rfl, _⟩; exact absurd hp6 (by rw [hpe]; simp); exact door_bad (HR3q.out.kx (Kx.trans (Kx.of_ext (by with_reducible (repeat (first | exact Ext.rfl_ _ | assumption | refine Ext.drew ?_ | refine Ext.drewN ?_ _ | refine Ext.alloc ?_ _ | refine Ext.trans ?_ (by assumption))))) (Kx.of_rdr hc6 (HRq.out.ext (by with_reducible (repeat (first | exact Ext.rfl_ _ | assumption | refine Ext.drew ?_ | refine Ext.drewN ?_ _ | refine Ext.alloc ?_ _ | refine Ext.trans ?_ (by assumption))))))) (by decide) (by decide) (by decide)) (HXq.out.chg ((Chg.of_ext (by with_reducible (repeat (first | exact Ext.rfl_ _ | assumption | refine Ext.drew ?_ | refine Ext.drewN ?_ _ | refine Ext.alloc ?_ _ | refine Ext.trans ?_ (by assumption))))).trans hc6) hg0) HBAD.out rfl rfl rfl
                    | some q =>
                      obtain ⟨y, r'⟩ := q
                      have hyk := pEnt_key hpe
                      refine wp_region_any (by kernel_rfl) ?_
                      (try (change wpAny _ _ _ _ _ _ _ (World.drew _)))
                      refine wpAny_take (i := 1) (oi := ({ dst := some 67, op := Go.Op.move (Go.Operand.tmp 7), type := 90, pos := "block.go:93", after := #[], guard := none } : Go.Oper)) (v := ?v27) rfl (by kernel_rfl) (by kernel_rfl) (by kernel_rfl) (fun _ _ _ h => openQ (by decide) (by decide) (by decide) h) (Or.inl ⟨by rfl, ?hy27⟩) ?rest27
                      case hy27 => (intro w; go_simp; (try with_reducible rfl))
                      (try simp only [Act.put, List.getElem_toArray, List.getElem_cons_zero, List.getElem_cons_succ, List.setIfInBounds_toArray, List.set_cons_zero, List.set_cons_succ])
                      refine wpAny_take (i := 2) (oi := ({ dst := some 68, op := Go.Op.move (Go.Operand.tmp 8), type := 22, pos := "block.go:93", after := #[], guard := none } : Go.Oper)) (v := ?v28) rfl (by kernel_rfl) (by kernel_rfl) (by kernel_rfl) (fun _ _ _ h => openQ (by decide) (by decide) (by decide) h) (Or.inl ⟨by rfl, ?hy28⟩) ?rest28
                      case hy28 => (intro w; go_simp; (try with_reducible rfl))
                      (try simp only [Act.put, List.getElem_toArray, List.getElem_cons_zero, List.getElem_cons_succ, List.setIfInBounds_toArray, List.set_cons_zero, List.set_cons_succ])
                      refine wpAny_ready (rs := [0, 3]) (by kernel_rfl) (by simp) ?_
                      refine AllReady.cons (o := ({ dst := some 66, op := Go.Op.load 37 (Go.Operand.tmp 2), type := 37, pos := "block.go:93", after := #[], guard := none } : Go.Oper)) rfl (fun K hK => ?one29) ?more29
                      case' one29 =>
                        go_simp
                        refine hK _ _ ?_
                        clear hK K
                        (try simp only [Act.put, List.getElem_toArray, List.getElem_cons_zero, List.getElem_cons_succ, List.setIfInBounds_toArray, List.set_cons_zero, List.set_cons_succ])
                        refine wpAny_ready (rs := [3]) (by kernel_rfl) (by simp) ?_
                        refine AllReady.cons (o := ({ dst := some 69, op := Go.Op.call { callee := Go.Callee.value (Go.Operand.func 60), args := #[Go.Operand.tmp 67, Go.Operand.tmp 68], argTypes := #[90, 22] }, type := 28, pos := "block.go:93", after := #[{ on := 1, ground := Go.Ground.data }, { on := 2, ground := Go.Ground.data }], guard := none } : Go.Oper)) rfl (fun K hK => ?_) AllReady.nil
                        go_simp
                        refine (entry_any g _ _ _ (keyL [] xs) rest _ (HRq.out.ext (by with_reducible (repeat (first | exact Ext.rfl_ _ | assumption | refine Ext.drew ?_ | refine Ext.drewN ?_ _ | refine Ext.alloc ?_ _ | refine Ext.trans ?_ (by assumption))))) (HBq.out.ext (by with_reducible (repeat (first | exact Ext.rfl_ _ | assumption | refine Ext.drew ?_ | refine Ext.drewN ?_ _ | refine Ext.alloc ?_ _ | refine Ext.trans ?_ (by assumption))))) hvm hv16).mono ?_; rintro e w6 ⟨h6, hc6⟩; rcases h6 with ⟨v6, y6, q6, rfl, hp6, hf6, hr6⟩ | ⟨_, hp6⟩; rotate_left; exact absurd hp6 (by rw [hpe]; simp); rw [hpe] at hp6; obtain ⟨rfl, rfl⟩ := (Prod.mk.inj (Option.some.inj hp6)); obtain ⟨A5, n5, c5, B5, m5, d5, rfl, hfe⟩ := frE_cells hf6; have K6 : Kx 105 wq w6 := Kx.trans (Kx.of_ext (by with_reducible (repeat (first | exact Ext.rfl_ _ | assumption | refine Ext.drew ?_ | refine Ext.drewN ?_ _ | refine Ext.alloc ?_ _ | refine Ext.trans ?_ (by assumption))))) (Kx.of_rdr hc6 (HRq.out.ext (by with_reducible (repeat (first | exact Ext.rfl_ _ | assumption | refine Ext.drew ?_ | refine Ext.drewN ?_ _ | refine Ext.alloc ?_ _ | refine Ext.trans ?_ (by assumption)))))); have X6 : Ext w w6 := (HXq.out.chg ((Chg.of_ext (by with_reducible (repeat (first | exact Ext.rfl_ _ | assumption | refine Ext.drew ?_ | refine Ext.drewN ?_ _ | refine Ext.alloc ?_ _ | refine Ext.trans ?_ (by assumption))))).trans hc6) hg0); obtain ⟨k1, k2, k3, f1, f2, f3, hsz⟩ := (HR3q.out.kx K6 (by decide) (by decide) (by decide)).cells; have hz0 : w.heap.size < w6.heap.size := (by omega); have hz1 : w.heap.size + 1 < w6.heap.size := (by omega)
                        (try (go_wp2_with fail))
                        (try (refine hK _ _ ?_; clear hK K))
                        (try simp only [Act.put, List.getElem_toArray, List.getElem_cons_zero, List.getElem_cons_succ, List.setIfInBounds_toArray, List.set_cons_zero, List.set_cons_succ])
                        refine wpAny_ready (rs := [4]) (by kernel_rfl) (by simp) ?_
                        refine AllReady.cons (o := ({ dst := some 70, op := Go.Op.buildSlice 37 1 #[(0, Go.Operand.tmp 69)], type := 37, pos := "block.go:93", after := #[{ on := 3, ground := Go.Ground.data }], guard := none } : Go.Oper)) rfl (fun K hK => ?_) AllReady.nil
                        go_simp
                        refine hK _ _ ?_
                        clear hK K
                        (try simp only [Act.put, List.getElem_toArray, List.getElem_cons_zero, List.getElem_cons_succ, List.setIfInBounds_toArray, List.set_cons_zero, List.set_cons_succ])
                        refine wpAny_ready (rs := [5]) (by kernel_rfl) (by simp) ?_
                        refine AllReady.cons (o := ({ dst := some 71, op := Go.Op.call { callee := Go.Callee.builtin Go.Builtin.append, args := #[Go.Operand.tmp 66, Go.Operand.tmp 70], argTypes := #[37, 37] }, type := 37, pos := "block.go:93", after := #[{ on := 0, ground := Go.Ground.data }, { on := 4, ground := Go.Ground.data }, { on := 3, ground := Go.Ground.chain }], guard := none } : Go.Oper)) rfl (fun K hK => ?_) AllReady.nil
                        refine step_appF rfl _ _ rfl w.heap.size (.slice Al xs.length cl) xs rfl w6 28 ⟨A5, n5, c5, B5, m5, d5⟩ y rfl (HFq.out.kx K6 (by decide) (by decide)) (hfe.low (Ext.size (HXq.out.trans (by with_reducible (repeat (first | exact Ext.rfl_ _ | assumption | refine Ext.drew ?_ | refine Ext.drewN ?_ _ | refine Ext.alloc ?_ _ | refine Ext.trans ?_ (by assumption))))))) rfl (by omega) (Ext.size X6) ?_; intro v8 w8 o8 kx8 g8; have R38 := (HR3q.out.kx K6 (by decide) (by decide) (by decide)).kx kx8 (by decide) (by decide) (by decide); obtain ⟨k1, k2, k3, f1, f2, f3, hsz⟩ := R38.cells; obtain ⟨G8, c8, _, _, _, rfl, hc8, _, _⟩ := o8.last
                        refine hK _ _ ?_
                        clear hK K
                        (try simp only [Act.put, List.getElem_toArray, List.getElem_cons_zero, List.getElem_cons_succ, List.setIfInBounds_toArray, List.set_cons_zero, List.set_cons_succ])
                        refine wpAny_ready (rs := [6]) (by kernel_rfl) (by simp) ?_
                        refine AllReady.cons (o := ({ dst := none, op := Go.Op.store 37 (Go.Operand.tmp 2) (Go.Operand.tmp 71), type := 0, pos := "block.go:93", after := #[{ on := 5, ground := Go.Ground.data }, { on := 5, ground := Go.Ground.chain }, { on := 0, ground := Go.Ground.phase }, { on := 1, ground := Go.Ground.phase }, { on := 2, ground := Go.Ground.phase }, { on := 3, ground := Go.Ground.phase }, { on := 4, ground := Go.Ground.phase }, { on := 5, ground := Go.Ground.phase }], guard := none } : Go.Oper)) rfl (fun K hK => ?_) AllReady.nil
                        go_simp
                        refine hK _ _ ?_
                        clear hK K
                        (try simp only [Act.put, List.getElem_toArray, List.getElem_cons_zero, List.getElem_cons_succ, List.setIfInBounds_toArray, List.set_cons_zero, List.set_cons_succ])
                        refine wpAny_done (by kernel_rfl) ?_ _
                      case' more29 =>
                        refine AllReady.cons (o := ({ dst := some 69, op := Go.Op.call { callee := Go.Callee.value (Go.Operand.func 60), args := #[Go.Operand.tmp 67, Go.Operand.tmp 68], argTypes := #[90, 22] }, type := 28, pos := "block.go:93", after := #[{ on := 1, ground := Go.Ground.data }, { on := 2, ground := Go.Ground.data }], guard := none } : Go.Oper)) rfl (fun K hK => ?_) AllReady.nil
                        go_simp
                        refine (entry_any g _ _ _ (keyL [] xs) rest _ (HRq.out.ext (by with_reducible (repeat (first | exact Ext.rfl_ _ | assumption | refine Ext.drew ?_ | refine Ext.drewN ?_ _ | refine Ext.alloc ?_ _ | refine Ext.trans ?_ (by assumption))))) (HBq.out.ext (by with_reducible (repeat (first | exact Ext.rfl_ _ | assumption | refine Ext.drew ?_ | refine Ext.drewN ?_ _ | refine Ext.alloc ?_ _ | refine Ext.trans ?_ (by assumption))))) hvm hv16).mono ?_; rintro e w6 ⟨h6, hc6⟩; rcases h6 with ⟨v6, y6, q6, rfl, hp6, hf6, hr6⟩ | ⟨_, hp6⟩; rotate_left; exact absurd hp6 (by rw [hpe]; simp); rw [hpe] at hp6; obtain ⟨rfl, rfl⟩ := (Prod.mk.inj (Option.some.inj hp6)); obtain ⟨A5, n5, c5, B5, m5, d5, rfl, hfe⟩ := frE_cells hf6; have K6 : Kx 105 wq w6 := Kx.trans (Kx.of_ext (by with_reducible (repeat (first | exact Ext.rfl_ _ | assumption | refine Ext.drew ?_ | refine Ext.drewN ?_ _ | refine Ext.alloc ?_ _ | refine Ext.trans ?_ (by assumption))))) (Kx.of_rdr hc6 (HRq.out.ext (by with_reducible (repeat (first | exact Ext.rfl_ _ | assumption | refine Ext.drew ?_ | refine Ext.drewN ?_ _ | refine Ext.alloc ?_ _ | refine Ext.trans ?_ (by assumption)))))); have X6 : Ext w w6 := (HXq.out.chg ((Chg.of_ext (by with_reducible (repeat (first | exact Ext.rfl_ _ | assumption | refine Ext.drew ?_ | refine Ext.drewN ?_ _ | refine Ext.alloc ?_ _ | refine Ext.trans ?_ (by assumption))))).trans hc6) hg0); obtain ⟨k1, k2, k3, f1, f2, f3, hsz⟩ := (HR3q.out.kx K6 (by decide) (by decide) (by decide)).cells; have hz0 : w.heap.size < w6.heap.size := (by omega); have hz1 : w.heap.size + 1 < w6.heap.size := (by omega)
                        (try (go_wp2_with fail))
                        (try (refine hK _ _ ?_; clear hK K))
                        (try simp only [Act.put, List.getElem_toArray, List.getElem_cons_zero, List.getElem_cons_succ, List.setIfInBounds_toArray, List.set_cons_zero, List.set_cons_succ])
                        refine wpAny_ready (rs := [0, 4]) (by kernel_rfl) (by simp) ?_
                        refine AllReady.cons (o := ({ dst := some 66, op := Go.Op.load 37 (Go.Operand.tmp 2), type := 37, pos := "block.go:93", after := #[], guard := none } : Go.Oper)) rfl (fun K hK => ?one30) ?more30
                        case' one30 =>
                          go_simp
                          refine hK _ _ ?_
                          clear hK K
                          (try simp only [Act.put, List.getElem_toArray, List.getElem_cons_zero, List.getElem_cons_succ, List.setIfInBounds_toArray, List.set_cons_zero, List.set_cons_succ])
                          refine wpAny_ready (rs := [4]) (by kernel_rfl) (by simp) ?_
                          refine AllReady.cons (o := ({ dst := some 70, op := Go.Op.buildSlice 37 1 #[(0, Go.Operand.tmp 69)], type := 37, pos := "block.go:93", after := #[{ on := 3, ground := Go.Ground.data }], guard := none } : Go.Oper)) rfl (fun K hK => ?_) AllReady.nil
                          go_simp
                          refine hK _ _ ?_
                          clear hK K
                          (try simp only [Act.put, List.getElem_toArray, List.getElem_cons_zero, List.getElem_cons_succ, List.setIfInBounds_toArray, List.set_cons_zero, List.set_cons_succ])
                          refine wpAny_ready (rs := [5]) (by kernel_rfl) (by simp) ?_
                          refine AllReady.cons (o := ({ dst := some 71, op := Go.Op.call { callee := Go.Callee.builtin Go.Builtin.append, args := #[Go.Operand.tmp 66, Go.Operand.tmp 70], argTypes := #[37, 37] }, type := 37, pos := "block.go:93", after := #[{ on := 0, ground := Go.Ground.data }, { on := 4, ground := Go.Ground.data }, { on := 3, ground := Go.Ground.chain }], guard := none } : Go.Oper)) rfl (fun K hK => ?_) AllReady.nil
                          refine step_appF rfl _ _ rfl w.heap.size (.slice Al xs.length cl) xs rfl w6 28 ⟨A5, n5, c5, B5, m5, d5⟩ y rfl (HFq.out.kx K6 (by decide) (by decide)) (hfe.low (Ext.size (HXq.out.trans (by with_reducible (repeat (first | exact Ext.rfl_ _ | assumption | refine Ext.drew ?_ | refine Ext.drewN ?_ _ | refine Ext.alloc ?_ _ | refine Ext.trans ?_ (by assumption))))))) rfl (by omega) (Ext.size X6) ?_; intro v8 w8 o8 kx8 g8; have R38 := (HR3q.out.kx K6 (by decide) (by decide) (by decide)).kx kx8 (by decide) (by decide) (by decide); obtain ⟨k1, k2, k3, f1, f2, f3, hsz⟩ := R38.cells; obtain ⟨G8, c8, _, _, _, rfl, hc8, _, _⟩ := o8.last
                          refine hK _ _ ?_
                          clear hK K
                          (try simp only [Act.put, List.getElem_toArray, List.getElem_cons_zero, List.getElem_cons_succ, List.setIfInBounds_toArray, List.set_cons_zero, List.set_cons_succ])
                          refine wpAny_ready (rs := [6]) (by kernel_rfl) (by simp) ?_
                          refine AllReady.cons (o := ({ dst := none, op := Go.Op.store 37 (Go.Operand.tmp 2) (Go.Operand.tmp 71), type := 0, pos := "block.go:93", after := #[{ on := 5, ground := Go.Ground.data }, { on := 5, ground := Go.Ground.chain }, { on := 0, ground := Go.Ground.phase }, { on := 1, ground := Go.Ground.phase }, { on := 2, ground := Go.Ground.phase }, { on := 3, ground := Go.Ground.phase }, { on := 4, ground := Go.Ground.phase }, { on := 5, ground := Go.Ground.phase }], guard := none } : Go.Oper)) rfl (fun K hK => ?_) AllReady.nil
                          go_simp
                          refine hK _ _ ?_
                          clear hK K
                          (try simp only [Act.put, List.getElem_toArray, List.getElem_cons_zero, List.getElem_cons_succ, List.setIfInBounds_toArray, List.set_cons_zero, List.set_cons_succ])
                          refine wpAny_done (by kernel_rfl) ?_ _
                        case' more30 =>
                          refine AllReady.cons (o := ({ dst := some 70, op := Go.Op.buildSlice 37 1 #[(0, Go.Operand.tmp 69)], type := 37, pos := "block.go:93", after := #[{ on := 3, ground := Go.Ground.data }], guard := none } : Go.Oper)) rfl (fun K hK => ?_) AllReady.nil
                          go_simp
                          refine hK _ _ ?_
                          clear hK K
                          (try simp only [Act.put, List.getElem_toArray, List.getElem_cons_zero, List.getElem_cons_succ, List.setIfInBounds_toArray, List.set_cons_zero, List.set_cons_succ])
                          refine wpAny_ready (rs := [0]) (by kernel_rfl) (by simp) ?_
                          refine AllReady.cons (o := ({ dst := some 66, op := Go.Op.load 37 (Go.Operand.tmp 2), type := 37, pos := "block.go:93", after := #[], guard := none } : Go.Oper)) rfl (fun K hK => ?_) AllReady.nil
                          go_simp
                          refine hK _ _ ?_
                          clear hK K
                          (try simp only [Act.put, List.getElem_toArray, List.getElem_cons_zero, List.getElem_cons_succ, List.setIfInBounds_toArray, List.set_cons_zero, List.set_cons_succ])
                          refine wpAny_ready (rs := [5]) (by kernel_rfl) (by simp) ?_
                          refine AllReady.cons (o := ({ dst := some 71, op := Go.Op.call { callee := Go.Callee.builtin Go.Builtin.append, args := #[Go.Operand.tmp 66, Go.Operand.tmp 70], argTypes := #[37, 37] }, type := 37, pos := "block.go:93", after := #[{ on := 0, ground := Go.Ground.data }, { on := 4, ground := Go.Ground.data }, { on := 3, ground := Go.Ground.chain }], guard := none } : Go.Oper)) rfl (fun K hK => ?_) AllReady.nil
                          refine step_appF rfl _ _ rfl w.heap.size (.slice Al xs.length cl) xs rfl w6 28 ⟨A5, n5, c5, B5, m5, d5⟩ y rfl (HFq.out.kx K6 (by decide) (by decide)) (hfe.low (Ext.size (HXq.out.trans (by with_reducible (repeat (first | exact Ext.rfl_ _ | assumption | refine Ext.drew ?_ | refine Ext.drewN ?_ _ | refine Ext.alloc ?_ _ | refine Ext.trans ?_ (by assumption))))))) rfl (by omega) (Ext.size X6) ?_; intro v8 w8 o8 kx8 g8; have R38 := (HR3q.out.kx K6 (by decide) (by decide) (by decide)).kx kx8 (by decide) (by decide) (by decide); obtain ⟨k1, k2, k3, f1, f2, f3, hsz⟩ := R38.cells; obtain ⟨G8, c8, _, _, _, rfl, hc8, _, _⟩ := o8.last
                          refine hK _ _ ?_
                          clear hK K
                          (try simp only [Act.put, List.getElem_toArray, List.getElem_cons_zero, List.getElem_cons_succ, List.setIfInBounds_toArray, List.set_cons_zero, List.set_cons_succ])
                          refine wpAny_ready (rs := [6]) (by kernel_rfl) (by simp) ?_
                          refine AllReady.cons (o := ({ dst := none, op := Go.Op.store 37 (Go.Operand.tmp 2) (Go.Operand.tmp 71), type := 0, pos := "block.go:93", after := #[{ on := 5, ground := Go.Ground.data }, { on := 5, ground := Go.Ground.chain }, { on := 0, ground := Go.Ground.phase }, { on := 1, ground := Go.Ground.phase }, { on := 2, ground := Go.Ground.phase }, { on := 3, ground := Go.Ground.phase }, { on := 4, ground := Go.Ground.phase }, { on := 5, ground := Go.Ground.phase }], guard := none } : Go.Oper)) rfl (fun K hK => ?_) AllReady.nil
                          go_simp
                          refine hK _ _ ?_
                          clear hK K
                          (try simp only [Act.put, List.getElem_toArray, List.getElem_cons_zero, List.getElem_cons_succ, List.setIfInBounds_toArray, List.set_cons_zero, List.set_cons_succ])
                          refine wpAny_done (by kernel_rfl) ?_ _
                      all_goals
                        obtain ⟨w9, hw9⟩ : ∃ w9, w9 = w8.setCell ⟨w.heap.size, 0, none⟩ (.slice (some ⟨G8, 0, none⟩) (xs.length + 1) c8) := ⟨_, rfl⟩
                        have K9 : Kx 37 w8 w9 := by rw [hw9]; exact Kx.of_set R38.1
                        have R39 : R3 w.heap.size w9 (.slice (some ⟨G8, 0, none⟩) (xs.length + 1) c8) vaq 0 := by rw [hw9]; exact R38.set1 _
                        have X8 : Ext w w8 := Ext.grown (X6.trans (by with_reducible (repeat (first | exact Ext.rfl_ _ | assumption | refine Ext.drew ?_ | refine Ext.drewN ?_ _ | refine Ext.alloc ?_ _ | refine Ext.trans ?_ (by assumption))))) g8 (fun k hk => (HFq.out.lt k hk).1)
                        have X9 : Ext w w9 := by rw [hw9]; exact X8.setCell (Nat.le_refl _) _
                        have o9 := o8.kx K9 (by decide) (by decide)
                        obtain ⟨G9, c9, A9, n9, d9, hv9, hc9, hcell9, ho9⟩ := o9.last
                        obtain ⟨rfl, rfl⟩ : G8 = G9 ∧ c8 = c9 := by simpa using hv9
                        have I9 : OwnI w9 w.heap.size vaq psq := ((HIq.out.kx K6 (by decide)).kx kx8 (by decide)).kx K9 (by decide)
                        have D9 : Rdr w9 g r' := (hr6.kx kx8 (by decide) (by decide)).kx K9 (by decide) (by decide)
                        rw [← hw9]
                        have O9 := Lib.hid o9
                        have HR39 := Lib.hid R39
                        have HI9 := Lib.hid I9
                        have HD9 := Lib.hid D9
                        have HO9 := Lib.hid ho9
                        have HX9 := Lib.hid X9
                        obtain ⟨k1, k2, k3, f1, f2, f3, hsz⟩ := R39.cells
                        clear hw9 K9 R39 X8 X9 o9 I9 D9 o8 hr6 hf6 hfe kx8 g8 R38 K6 X6 hc6 ho9 hv9 hz0 hz1
                        have hci : ((xs.length : Int) + 1) ≤ (c8 : Int) := by omega
                        have hxc : xs.length < c8 := by omega
                        go_wp2
                        go_roundw
                        case rel =>
                          refine ⟨xs ++ [y], r', psq, _, _, HX9.out, HR39.out, O9.out, HI9.out, HD9.out, ?_, HBod.out.next hpe, fun l hl => HPsq.out y l hl, by simp; omega, by simp; omega, ?_⟩
                          · rw [keyL_snoc]; exact HO9.out
                          · rw [keyL_snoc]; simp; omega
                        case measure =>
                          have := R3.cells HR39.out
                          simp [sLen, k1, kw1]
                          omega
                · have r4b : ((xs.length : Int) % 4 == 0) = false := by rw [beq_eq_false_iff_ne]; omega
                  go_wp2_with fail
                  refine (left_any g rest _ HR.out).mono ?_
                  rintro e w' ⟨rfl, rfl⟩
                  go_wp2_with (go_at_call 56; refine (ask_yes _).mono ?_; rintro e w' ⟨rfl, rfl⟩)
                  obtain ⟨psq, hpsq⟩ : ∃ psq, psq = ps := ⟨_, rfl⟩
                  obtain ⟨vaq, hvaq⟩ : ∃ vaq, vaq = Value.slice Aa ps.length ca := ⟨_, rfl⟩
                  have hpl : psq.length ≤ xs.length + 1 := by rw [hpsq]; omega
                  have hPsq : ∀ (y : Ent) l, IsBlk b l → psq = posI (xs ++ [y]) := fun y l hl => by
                    rw [hpsq, HPs.out l hl]
                    unfold posI
                    rw [posB_snoc, if_neg r4, List.append_nil]
                  have HPsq := Lib.hid hPsq
                  obtain ⟨wq, hwq⟩ : ∃ wq, wq = wr := ⟨_, rfl⟩
                  rw [← hwq]
                  have HXq := HX1
                  have HR3q := HR3
                  have HFq := HF
                  have HRq := HR
                  have HBq := HRBb
                  have HIq := HI
                  rw [← hvaq] at HR3q HIq
                  rw [← hpsq] at HIq
                  rw [← hwq] at HXq HR3q HFq HRq HBq HIq k1 k2 k3 f1 f2 f3 hsz
                  have kw1 := HR3.out.cells.1
                  rw [← hvaq] at k2
                  clear hwq hpsq hvaq hPsq
                  cases hpe : pEnt (keyL [] xs) rest with
                  | none =>
                    have hbad := HBod.out.bad hpe hre
                    have HBAD := Lib.hid hbad
                    clear hbad
                    refine wp_region_any (by kernel_rfl) ?_
                    (try (change wpAny _ _ _ _ _ _ _ (World.drew _)))
                    refine wpAny_take (i := 1) (oi := ({ dst := some 67, op := Go.Op.move (Go.Operand.tmp 7), type := 90, pos := "block.go:93", after := #[], guard := none } : Go.Oper)) (v := ?v31) rfl (by kernel_rfl) (by kernel_rfl) (by kernel_rfl) (fun _ _ _ h => openQ (by decide) (by decide) (by decide) h) (Or.inl ⟨by rfl, ?hy31⟩) ?rest31
                    case hy31 => (intro w; go_simp; (try with_reducible rfl))
                    (try simp only [Act.put, List.getElem_toArray, List.getElem_cons_zero, List.getElem_cons_succ, List.setIfInBounds_toArray, List.set_cons_zero, List.set_cons_succ])
                    refine wpAny_take (i := 2) (oi := ({ dst := some 68, op := Go.Op.move (Go.Operand.tmp 8), type := 22, pos := "block.go:93", after := #[], guard := none } : Go.Oper)) (v := ?v32) rfl (by kernel_rfl) (by kernel_rfl) (by kernel_rfl) (fun _ _ _ h => openQ (by decide) (by decide) (by decide) h) (Or.inl ⟨by rfl, ?hy32⟩) ?rest32
                    case hy32 => (intro w; go_simp; (try with_reducible rfl))
                    (try simp only [Act.put, List.getElem_toArray, List.getElem_cons_zero, List.getElem_cons_succ, List.setIfInBounds_toArray, List.set_cons_zero, List.set_cons_succ])
                    refine wpAny_ready (rs := [0, 3]) (by kernel_rfl) (by simp) ?_
                    refine AllReady.cons (o := ({ dst := some 66, op := Go.Op.load 37 (Go.Operand.tmp 2), type := 37, pos := "block.go:93", after := #[], guard := none } : Go.Oper)) rfl (fun K hK => ?one33) ?more33
                    case' one33 =>
                      go_simp
                      refine hK _ _ ?_
                      clear hK K
                      (try simp only [Act.put, List.getElem_toArray, List.getElem_cons_zero, List.getElem_cons_succ, List.setIfInBounds_toArray, List.set_cons_zero, List.set_cons_succ])
                      refine wpAny_ready (rs := [3]) (by kernel_rfl) (by simp) ?_
                      refine AllReady.cons (o := ({ dst := some 69, op := Go.Op.call { callee := Go.Callee.value (Go.Operand.func 60), args := #[Go.Operand.tmp 67, Go.Operand.tmp 68], argTypes := #[90, 22] }, type := 28, pos := "block.go:93", after := #[{ on := 1, ground := Go.Ground.data }, { on := 2, ground := Go.Ground.data }], guard := none } : Go.Oper)) rfl (fun K hK => ?_) AllReady.nil
                      go_simp
                      refine (entry_any g _ _ _ (keyL [] xs) rest _ (HRq.out.ext (by with_reducible (repeat (first | exact Ext.rfl_ _ | assumption | refine Ext.drew ?_ | refine Ext.drewN ?_ _ | refine Ext.alloc ?_ _ | refine Ext.trans ?_ (by assumption))))) (HBq.out.ext (by with_reducible (repeat (first | exact Ext.rfl_ _ | assumption | refine Ext.drew ?_ | refine Ext.drewN ?_ _ | refine Ext.alloc ?_ _ | refine Ext.trans ?_ (by assumption))))) hvm hv16).mono ?_; rintro e w6 ⟨h6, hc6⟩; rcases h6 with ⟨_, _, _, _, hp6, _⟩ | ⟨rfl, _⟩; exact absurd hp6 (by rw [hpe]; simp); exact door_bad (HR3q.out.kx (Kx.trans (Kx.of_ext (by with_reducible (repeat (first | exact Ext.rfl_ _ | assumption | refine Ext.drew ?_ | refine Ext.drewN ?_ _ | refine Ext.alloc ?_ _ | refine Ext.trans ?_ (by assumption))))) (Kx.of_rdr hc6 (HRq.out.ext (by with_reducible (repeat (first | exact Ext.rfl_ _ | assumption | refine Ext.drew ?_ | refine Ext.drewN ?_ _ | refine Ext.alloc ?_ _ | refine Ext.trans ?_ (by assumption))))))) (by decide) (by decide) (by decide)) (HXq.out.chg ((Chg.of_ext (by with_reducible (repeat (first | exact Ext.rfl_ _ | assumption | refine Ext.drew ?_ | refine Ext.drewN ?_ _ | refine Ext.alloc ?_ _ | refine Ext.trans ?_ (by assumption))))).trans hc6) hg0) HBAD.out rfl rfl rfl
                    case' more33 =>
                      refine AllReady.cons (o := ({ dst := some 69, op := Go.Op.call { callee := Go.Callee.value (Go.Operand.func 60), args := #[Go.Operand.tmp 67, Go.Operand.tmp 68], argTypes := #[90, 22] }, type := 28, pos := "block.go:93", after := #[{ on := 1, ground := Go.Ground.data }, { on := 2, ground := Go.Ground.data }], guard := none } : Go.Oper)) rfl (fun K hK => ?_) AllReady.nil
                      go_simp
                      refine (entry_any g _ _ _ (keyL [] xs) rest _ (HRq.out.ext (by with_reducible (repeat (first | exact Ext.rfl_ _ | assumption | refine Ext.drew ?_ | refine Ext.drewN ?_ _ | refine Ext.alloc ?_ _ | refine Ext.trans ?_ (by assumption))))) (HBq.out.ext (by with_reducible (repeat (first | exact Ext.rfl_ _ | assumption | refine Ext.drew ?_ | refine Ext.drewN ?_ _ | refine Ext.alloc ?_ _ | refine Ext.trans ?_ (by assumption))))) hvm hv16).mono ?_; rintro e w6 ⟨h6, hc6⟩; rcases h6 with ⟨_, _, _, _, hp6, _⟩ | ⟨rfl, _⟩; exact absurd hp6 (by rw [hpe]; simp); exact door_bad (HR3q.out.kx (Kx.trans (Kx.of_ext (by with_reducible (repeat (first | exact Ext.rfl_ _ | assumption | refine Ext.drew ?_ | refine Ext.drewN ?_ _ | refine Ext.alloc ?_ _ | refine Ext.trans ?_ (by assumption))))) (Kx.of_rdr hc6 (HRq.out.ext (by with_reducible (repeat (first | exact Ext.rfl_ _ | assumption | refine Ext.drew ?_ | refine Ext.drewN ?_ _ | refine Ext.alloc ?_ _ | refine Ext.trans ?_ (by assumption))))))) (by decide) (by decide) (by decide)) (HXq.out.chg ((Chg.of_ext (by with_reducible (repeat (first | exact Ext.rfl_ _ | assumption | refine Ext.drew ?_ | refine Ext.drewN ?_ _ | refine Ext.alloc ?_ _ | refine Ext.trans ?_ (by assumption))))).trans hc6) hg0) HBAD.out rfl rfl rfl
                  | some q =>
                    obtain ⟨y, r'⟩ := q
                    have hyk := pEnt_key hpe
                    refine wp_region_any (by kernel_rfl) ?_
                    (try (change wpAny _ _ _ _ _ _ _ (World.drew _)))
                    refine wpAny_take (i := 1) (oi := ({ dst := some 67, op := Go.Op.move (Go.Operand.tmp 7), type := 90, pos := "block.go:93", after := #[], guard := none } : Go.Oper)) (v := ?v34) rfl (by kernel_rfl) (by kernel_rfl) (by kernel_rfl) (fun _ _ _ h => openQ (by decide) (by decide) (by decide) h) (Or.inl ⟨by rfl, ?hy34⟩) ?rest34
                    case hy34 => (intro w; go_simp; (try with_reducible rfl))
                    (try simp only [Act.put, List.getElem_toArray, List.getElem_cons_zero, List.getElem_cons_succ, List.setIfInBounds_toArray, List.set_cons_zero, List.set_cons_succ])
                    refine wpAny_take (i := 2) (oi := ({ dst := some 68, op := Go.Op.move (Go.Operand.tmp 8), type := 22, pos := "block.go:93", after := #[], guard := none } : Go.Oper)) (v := ?v35) rfl (by kernel_rfl) (by kernel_rfl) (by kernel_rfl) (fun _ _ _ h => openQ (by decide) (by decide) (by decide) h) (Or.inl ⟨by rfl, ?hy35⟩) ?rest35
                    case hy35 => (intro w; go_simp; (try with_reducible rfl))
                    (try simp only [Act.put, List.getElem_toArray, List.getElem_cons_zero, List.getElem_cons_succ, List.setIfInBounds_toArray, List.set_cons_zero, List.set_cons_succ])
                    refine wpAny_ready (rs := [0, 3]) (by kernel_rfl) (by simp) ?_
                    refine AllReady.cons (o := ({ dst := some 66, op := Go.Op.load 37 (Go.Operand.tmp 2), type := 37, pos := "block.go:93", after := #[], guard := none } : Go.Oper)) rfl (fun K hK => ?one36) ?more36
                    case' one36 =>
                      go_simp
                      refine hK _ _ ?_
                      clear hK K
                      (try simp only [Act.put, List.getElem_toArray, List.getElem_cons_zero, List.getElem_cons_succ, List.setIfInBounds_toArray, List.set_cons_zero, List.set_cons_succ])
                      refine wpAny_ready (rs := [3]) (by kernel_rfl) (by simp) ?_
                      refine AllReady.cons (o := ({ dst := some 69, op := Go.Op.call { callee := Go.Callee.value (Go.Operand.func 60), args := #[Go.Operand.tmp 67, Go.Operand.tmp 68], argTypes := #[90, 22] }, type := 28, pos := "block.go:93", after := #[{ on := 1, ground := Go.Ground.data }, { on := 2, ground := Go.Ground.data }], guard := none } : Go.Oper)) rfl (fun K hK => ?_) AllReady.nil
                      go_simp
                      refine (entry_any g _ _ _ (keyL [] xs) rest _ (HRq.out.ext (by with_reducible (repeat (first | exact Ext.rfl_ _ | assumption | refine Ext.drew ?_ | refine Ext.drewN ?_ _ | refine Ext.alloc ?_ _ | refine Ext.trans ?_ (by assumption))))) (HBq.out.ext (by with_reducible (repeat (first | exact Ext.rfl_ _ | assumption | refine Ext.drew ?_ | refine Ext.drewN ?_ _ | refine Ext.alloc ?_ _ | refine Ext.trans ?_ (by assumption))))) hvm hv16).mono ?_; rintro e w6 ⟨h6, hc6⟩; rcases h6 with ⟨v6, y6, q6, rfl, hp6, hf6, hr6⟩ | ⟨_, hp6⟩; rotate_left; exact absurd hp6 (by rw [hpe]; simp); rw [hpe] at hp6; obtain ⟨rfl, rfl⟩ := (Prod.mk.inj (Option.some.inj hp6)); obtain ⟨A5, n5, c5, B5, m5, d5, rfl, hfe⟩ := frE_cells hf6; have K6 : Kx 105 wq w6 := Kx.trans (Kx.of_ext (by with_reducible (repeat (first | exact Ext.rfl_ _ | assumption | refine Ext.drew ?_ | refine Ext.drewN ?_ _ | refine Ext.alloc ?_ _ | refine Ext.trans ?_ (by assumption))))) (Kx.of_rdr hc6 (HRq.out.ext (by with_reducible (repeat (first | exact Ext.rfl_ _ | assumption | refine Ext.drew ?_ | refine Ext.drewN ?_ _ | refine Ext.alloc ?_ _ | refine Ext.trans ?_ (by assumption)))))); have X6 : Ext w w6 := (HXq.out.chg ((Chg.of_ext (by with_reducible (repeat (first | exact Ext.rfl_ _ | assumption | refine Ext.drew ?_ | refine Ext.drewN ?_ _ | refine Ext.alloc ?_ _ | refine Ext.trans ?_ (by assumption))))).trans hc6) hg0); obtain ⟨k1, k2, k3, f1, f2, f3, hsz⟩ := (HR3q.out.kx K6 (by decide) (by decide) (by decide)).cells; have hz0 : w.heap.size < w6.heap.size := (by omega); have hz1 : w.heap.size + 1 < w6.heap.size := (by omega)
                      (try (go_wp2_with fail))
                      (try (refine hK _ _ ?_; clear hK K))
                      (try simp only [Act.put, List.getElem_toArray, List.getElem_cons_zero, List.getElem_cons_succ, List.setIfInBounds_toArray, List.set_cons_zero, List.set_cons_succ])
                      refine wpAny_ready (rs := [4]) (by kernel_rfl) (by simp) ?_
                      refine AllReady.cons (o := ({ dst := some 70, op := Go.Op.buildSlice 37 1 #[(0, Go.Operand.tmp 69)], type := 37, pos := "block.go:93", after := #[{ on := 3, ground := Go.Ground.data }], guard := none } : Go.Oper)) rfl (fun K hK => ?_) AllReady.nil
                      go_simp
                      refine hK _ _ ?_
                      clear hK K
                      (try simp only [Act.put, List.getElem_toArray, List.getElem_cons_zero, List.getElem_cons_succ, List.setIfInBounds_toArray, List.set_cons_zero, List.set_cons_succ])
                      refine wpAny_ready (rs := [5]) (by kernel_rfl) (by simp) ?_
                      refine AllReady.cons (o := ({ dst := some 71, op := Go.Op.call { callee := Go.Callee.builtin Go.Builtin.append, args := #[Go.Operand.tmp 66, Go.Operand.tmp 70], argTypes := #[37, 37] }, type := 37, pos := "block.go:93", after := #[{ on := 0, ground := Go.Ground.data }, { on := 4, ground := Go.Ground.data }, { on := 3, ground := Go.Ground.chain }], guard := none } : Go.Oper)) rfl (fun K hK => ?_) AllReady.nil
                      refine step_appF rfl _ _ rfl w.heap.size (.slice Al xs.length cl) xs rfl w6 28 ⟨A5, n5, c5, B5, m5, d5⟩ y rfl (HFq.out.kx K6 (by decide) (by decide)) (hfe.low (Ext.size (HXq.out.trans (by with_reducible (repeat (first | exact Ext.rfl_ _ | assumption | refine Ext.drew ?_ | refine Ext.drewN ?_ _ | refine Ext.alloc ?_ _ | refine Ext.trans ?_ (by assumption))))))) rfl (by omega) (Ext.size X6) ?_; intro v8 w8 o8 kx8 g8; have R38 := (HR3q.out.kx K6 (by decide) (by decide) (by decide)).kx kx8 (by decide) (by decide) (by decide); obtain ⟨k1, k2, k3, f1, f2, f3, hsz⟩ := R38.cells; obtain ⟨G8, c8, _, _, _, rfl, hc8, _, _⟩ := o8.last
                      refine hK _ _ ?_
                      clear hK K
                      (try simp only [Act.put, List.getElem_toArray, List.getElem_cons_zero, List.getElem_cons_succ, List.setIfInBounds_toArray, List.set_cons_zero, List.set_cons_succ])
                      refine wpAny_ready (rs := [6]) (by kernel_rfl) (by simp) ?_
                      refine AllReady.cons (o := ({ dst := none, op := Go.Op.store 37 (Go.Operand.tmp 2) (Go.Operand.tmp 71), type := 0, pos := "block.go:93", after := #[{ on := 5, ground := Go.Ground.data }, { on := 5, ground := Go.Ground.chain }, { on := 0, ground := Go.Ground.phase }, { on := 1, ground := Go.Ground.phase }, { on := 2, ground := Go.Ground.phase }, { on := 3, ground := Go.Ground.phase }, { on := 4, ground := Go.Ground.phase }, { on := 5, ground := Go.Ground.phase }], guard := none } : Go.Oper)) rfl (fun K hK => ?_) AllReady.nil
                      go_simp
                      refine hK _ _ ?_
                      clear hK K
                      (try simp only [Act.put, List.getElem_toArray, List.getElem_cons_zero, List.getElem_cons_succ, List.setIfInBounds_toArray, List.set_cons_zero, List.set_cons_succ])
                      refine wpAny_done (by kernel_rfl) ?_ _
                    case' more36 =>
                      refine AllReady.cons (o := ({ dst := some 69, op := Go.Op.call { callee := Go.Callee.value (Go.Operand.func 60), args := #[Go.Operand.tmp 67, Go.Operand.tmp 68], argTypes := #[90, 22] }, type := 28, pos := "block.go:93", after := #[{ on := 1, ground := Go.Ground.data }, { on := 2, ground := Go.Ground.data }], guard := none } : Go.Oper)) rfl (fun K hK => ?_) AllReady.nil
                      go_simp
                      refine (entry_any g _ _ _ (keyL [] xs) rest _ (HRq.out.ext (by with_reducible (repeat (first | exact Ext.rfl_ _ | assumption | refine Ext.drew ?_ | refine Ext.drewN ?_ _ | refine Ext.alloc ?_ _ | refine Ext.trans ?_ (by assumption))))) (HBq.out.ext (by with_reducible (repeat (first | exact Ext.rfl_ _ | assumption | refine Ext.drew ?_ | refine Ext.drewN ?_ _ | refine Ext.alloc ?_ _ | refine Ext.trans ?_ (by assumption))))) hvm hv16).mono ?_; rintro e w6 ⟨h6, hc6⟩; rcases h6 with ⟨v6, y6, q6, rfl, hp6, hf6, hr6⟩ | ⟨_, hp6⟩; rotate_left; exact absurd hp6 (by rw [hpe]; simp); rw [hpe] at hp6; obtain ⟨rfl, rfl⟩ := (Prod.mk.inj (Option.some.inj hp6)); obtain ⟨A5, n5, c5, B5, m5, d5, rfl, hfe⟩ := frE_cells hf6; have K6 : Kx 105 wq w6 := Kx.trans (Kx.of_ext (by with_reducible (repeat (first | exact Ext.rfl_ _ | assumption | refine Ext.drew ?_ | refine Ext.drewN ?_ _ | refine Ext.alloc ?_ _ | refine Ext.trans ?_ (by assumption))))) (Kx.of_rdr hc6 (HRq.out.ext (by with_reducible (repeat (first | exact Ext.rfl_ _ | assumption | refine Ext.drew ?_ | refine Ext.drewN ?_ _ | refine Ext.alloc ?_ _ | refine Ext.trans ?_ (by assumption)))))); have X6 : Ext w w6 := (HXq.out.chg ((Chg.of_ext (by with_reducible (repeat (first | exact Ext.rfl_ _ | assumption | refine Ext.drew ?_ | refine Ext.drewN ?_ _ | refine Ext.alloc ?_ _ | refine Ext.trans ?_ (by assumption))))).trans hc6) hg0); obtain ⟨k1, k2, k3, f1, f2, f3, hsz⟩ := (HR3q.out.kx K6 (by decide) (by decide) (by decide)).cells; have hz0 : w.heap.size < w6.heap.size := (by omega); have hz1 : w.heap.size + 1 < w6.heap.size := (by omega)
                      (try (go_wp2_with fail))
                      (try (refine hK _ _ ?_; clear hK K))
                      (try simp only [Act.put, List.getElem_toArray, List.getElem_cons_zero, List.getElem_cons_succ, List.setIfInBounds_toArray, List.set_cons_zero, List.set_cons_succ])
                      refine wpAny_ready (rs := [0, 4]) (by kernel_rfl) (by simp) ?_
                      refine AllReady.cons (o := ({ dst := some 66, op := Go.Op.load 37 (Go.Operand.tmp 2), type := 37, pos := "block.go:93", after := #[], guard := none } : Go.Oper)) rfl (fun K hK => ?one37) ?more37
                      case' one37 =>
                        go_simp
                        refine hK _ _ ?_
                        clear hK K
                        (try simp only [Act.put, List.getElem_toArray, List.getElem_cons_zero, List.getElem_cons_succ, List.setIfInBounds_toArray, List.set_cons_zero, List.set_cons_succ])
                        refine wpAny_ready (rs := [4]) (by kernel_rfl) (by simp) ?_
                        refine AllReady.cons (o := ({ dst := some 70, op := Go.Op.buildSlice 37 1 #[(0, Go.Operand.tmp 69)], type := 37, pos := "block.go:93", after := #[{ on := 3, ground := Go.Ground.data }], guard := none } : Go.Oper)) rfl (fun K hK => ?_) AllReady.nil
                        go_simp
                        refine hK _ _ ?_
                        clear hK K
                        (try simp only [Act.put, List.getElem_toArray, List.getElem_cons_zero, List.getElem_cons_succ, List.setIfInBounds_toArray, List.set_cons_zero, List.set_cons_succ])
                        refine wpAny_ready (rs := [5]) (by kernel_rfl) (by simp) ?_
                        refine AllReady.cons (o := ({ dst := some 71, op := Go.Op.call { callee := Go.Callee.builtin Go.Builtin.append, args := #[Go.Operand.tmp 66, Go.Operand.tmp 70], argTypes := #[37, 37] }, type := 37, pos := "block.go:93", after := #[{ on := 0, ground := Go.Ground.data }, { on := 4, ground := Go.Ground.data }, { on := 3, ground := Go.Ground.chain }], guard := none } : Go.Oper)) rfl (fun K hK => ?_) AllReady.nil
                        refine step_appF rfl _ _ rfl w.heap.size (.slice Al xs.length cl) xs rfl w6 28 ⟨A5, n5, c5, B5, m5, d5⟩ y rfl (HFq.out.kx K6 (by decide) (by decide)) (hfe.low (Ext.size (HXq.out.trans (by with_reducible (repeat (first | exact Ext.rfl_ _ | assumption | refine Ext.drew ?_ | refine Ext.drewN ?_ _ | refine Ext.alloc ?_ _ | refine Ext.trans ?_ (by assumption))))))) rfl (by omega) (Ext.size X6) ?_; intro v8 w8 o8 kx8 g8; have R38 := (HR3q.out.kx K6 (by decide) (by decide) (by decide)).kx kx8 (by decide) (by decide) (by decide); obtain ⟨k1, k2, k3, f1, f2, f3, hsz⟩ := R38.cells; obtain ⟨G8, c8, _, _, _, rfl, hc8, _, _⟩ := o8.last
                        refine hK _ _ ?_
                        clear hK K
                        (try simp only [Act.put, List.getElem_toArray, List.getElem_cons_zero, List.getElem_cons_succ, List.setIfInBounds_toArray, List.set_cons_zero, List.set_cons_succ])
                        refine wpAny_ready (rs := [6]) (by kernel_rfl) (by simp) ?_
                        refine AllReady.cons (o := ({ dst := none, op := Go.Op.store 37 (Go.Operand.tmp 2) (Go.Operand.tmp 71), type := 0, pos := "block.go:93", after := #[{ on := 5, ground := Go.Ground.data }, { on := 5, ground := Go.Ground.chain }, { on := 0, ground := Go.Ground.phase }, { on := 1, ground := Go.Ground.phase }, { on := 2, ground := Go.Ground.phase }, { on := 3, ground := Go.Ground.phase }, { on := 4, ground := Go.Ground.phase }, { on := 5, ground := Go.Ground.phase }], guard := none } : Go.Oper)) rfl (fun K hK => ?_) AllReady.nil
                        go_simp
                        refine hK _ _ ?_
                        clear hK K
                        (try simp only [Act.put, List.getElem_toArray, List.getElem_cons_zero, List.getElem_cons_succ, List.setIfInBounds_toArray, List.set_cons_zero, List.set_cons_succ])
                        refine wpAny_done (by kernel_rfl) ?_ _
                      case' more37 =>
                        refine AllReady.cons (o := ({ dst := some 70, op := Go.Op.buildSlice 37 1 #[(0, Go.Operand.tmp 69)], type := 37, pos := "block.go:93", after := #[{ on := 3, ground := Go.Ground.data }], guard := none } : Go.Oper)) rfl (fun K hK => ?_) AllReady.nil
                        go_simp
                        refine hK _ _ ?_
                        clear hK K
                        (try simp only [Act.put, List.getElem_toArray, List.getElem_cons_zero, List.getElem_cons_succ, List.setIfInBounds_toArray, List.set_cons_zero, List.set_cons_succ])
                        refine wpAny_ready (rs := [0]) (by kernel_rfl) (by simp) ?_
                        refine AllReady.cons (o := ({ dst := some 66, op := Go.Op.load 37 (Go.Operand.tmp 2), type := 37, pos := "block.go:93", after := #[], guard := none } : Go.Oper)) rfl (fun K hK => ?_) AllReady.nil
                        go_simp
                        refine hK _ _ ?_
                        clear hK K
                        (try simp only [Act.put, List.getElem_toArray, List.getElem_cons_zero, List.getElem_cons_succ, List.setIfInBounds_toArray, List.set_cons_zero, List.set_cons_succ])
                        refine wpAny_ready (rs := [5]) (by kernel_rfl) (by simp) ?_
                        refine AllReady.cons (o := ({ dst := some 71, op := Go.Op.call { callee := Go.Callee.builtin Go.Builtin.append, args := #[Go.Operand.tmp 66, Go.Operand.tmp 70], argTypes := #[37, 37] }, type := 37, pos := "block.go:93", after := #[{ on := 0, ground := Go.Ground.data }, { on := 4, ground := Go.Ground.data }, { on := 3, ground := Go.Ground.chain }], guard := none } : Go.Oper)) rfl (fun K hK => ?_) AllReady.nil
                        refine step_appF rfl _ _ rfl w.heap.size (.slice Al xs.length cl) xs rfl w6 28 ⟨A5, n5, c5, B5, m5, d5⟩ y rfl (HFq.out.kx K6 (by decide) (by decide)) (hfe.low (Ext.size (HXq.out.trans (by with_reducible (repeat (first | exact Ext.rfl_ _ | assumption | refine Ext.drew ?_ | refine Ext.drewN ?_ _ | refine Ext.alloc ?_ _ | refine Ext.trans ?_ (by assumption))))))) rfl (by omega) (Ext.size X6) ?_; intro v8 w8 o8 kx8 g8; have R38 := (HR3q.out.kx K6 (by decide) (by decide) (by decide)).kx kx8 (by decide) (by decide) (by decide); obtain ⟨k1, k2, k3, f1, f2, f3, hsz⟩ := R38.cells; obtain ⟨G8, c8, _, _, _, rfl, hc8, _, _⟩ := o8.last
                        refine hK _ _ ?_
                        clear hK K
                        (try simp only [Act.put, List.getElem_toArray, List.getElem_cons_zero, List.getElem_cons_succ, List.setIfInBounds_toArray, List.set_cons_zero, List.set_cons_succ])
                        refine wpAny_ready (rs := [6]) (by kernel_rfl) (by simp) ?_
                        refine AllReady.cons (o := ({ dst := none, op := Go.Op.store 37 (Go.Operand.tmp 2) (Go.Operand.tmp 71), type := 0, pos := "block.go:93", after := #[{ on := 5, ground := Go.Ground.data }, { on := 5, ground := Go.Ground.chain }, { on := 0, ground := Go.Ground.phase }, { on := 1, ground := Go.Ground.phase }, { on := 2, ground := Go.Ground.phase }, { on := 3, ground := Go.Ground.phase }, { on := 4, ground := Go.Ground.phase }, { on := 5, ground := Go.Ground.phase }], guard := none } : Go.Oper)) rfl (fun K hK => ?_) AllReady.nil
                        go_simp
                        refine hK _ _ ?_
                        clear hK K
                        (try simp only [Act.put, List.getElem_toArray, List.getElem_cons_zero, List.getElem_cons_succ, List.setIfInBounds_toArray, List.set_cons_zero, List.set_cons_succ])
                        refine wpAny_done (by kernel_rfl) ?_ _
                    all_goals
                      obtain ⟨w9, hw9⟩ : ∃ w9, w9 = w8.setCell ⟨w.heap.size, 0, none⟩ (.slice (some ⟨G8, 0, none⟩) (xs.length + 1) c8) := ⟨_, rfl⟩
                      have K9 : Kx 37 w8 w9 := by rw [hw9]; exact Kx.of_set R38.1
                      have R39 : R3 w.heap.size w9 (.slice (some ⟨G8, 0, none⟩) (xs.length + 1) c8) vaq 0 := by rw [hw9]; exact R38.set1 _
                      have X8 : Ext w w8 := Ext.grown (X6.trans (by with_reducible (repeat (first | exact Ext.rfl_ _ | assumption | refine Ext.drew ?_ | refine Ext.drewN ?_ _ | refine Ext.alloc ?_ _ | refine Ext.trans ?_ (by assumption))))) g8 (fun k hk => (HFq.out.lt k hk).1)
                      have X9 : Ext w w9 := by rw [hw9]; exact X8.setCell (Nat.le_refl _) _
                      have o9 := o8.kx K9 (by decide) (by decide)
                      obtain ⟨G9, c9, A9, n9, d9, hv9, hc9, hcell9, ho9⟩ := o9.last
                      obtain ⟨rfl, rfl⟩ : G8 = G9 ∧ c8 = c9 := by simpa using hv9
                      have I9 : OwnI w9 w.heap.size vaq psq := ((HIq.out.kx K6 (by decide)).kx kx8 (by decide)).kx K9 (by decide)
                      have D9 : Rdr w9 g r' := (hr6.kx kx8 (by decide) (by decide)).kx K9 (by decide) (by decide)
                      rw [← hw9]
                      have O9 := Lib.hid o9
                      have HR39 := Lib.hid R39
                      have HI9 := Lib.hid I9
                      have HD9 := Lib.hid D9
                      have HO9 := Lib.hid ho9
                      have HX9 := Lib.hid X9
                      obtain ⟨k1, k2, k3, f1, f2, f3, hsz⟩ := R39.cells
                      clear hw9 K9 R39 X8 X9 o9 I9 D9 o8 hr6 hf6 hfe kx8 g8 R38 K6 X6 hc6 ho9 hv9 hz0 hz1
                      have hci : ((xs.length : Int) + 1) ≤ (c8 : Int) := by omega
                      have hxc : xs.length < c8 := by omega
                      go_wp2
                      go_roundw
                      case rel =>
                        refine ⟨xs ++ [y], r', psq, _, _, HX9.out, HR39.out, O9.out, HI9.out, HD9.out, ?_, HBod.out.next hpe, fun l hl => HPsq.out y l hl, by simp; omega, by simp; omega, ?_⟩
                        · rw [keyL_snoc]; exact HO9.out
                        · rw [keyL_snoc]; simp; omega
                      case measure =>
                        have := R3.cells HR39.out
                        simp [sLen, k1, kw1]
                        omega
              · have hxli : ¬ (xs.length : Int) < 1024 := by omega
                have dx : decide (xs.length < 1024) = false := decide_eq_false hxl
                have dxi : decide ((xs.length : Int) < 1024) = false := decide_eq_false hxli
                have hbad := HBod.out.many (by omega) hre
                have HBAD := Lib.hid hbad
                clear hbad
                go_wp2_with fail
                refine (left_any g rest _ HR.out).mono ?_
                rintro e w' ⟨rfl, rfl⟩
                go_wp2_with (go_at_call 56; refine (ask_no _).mono ?_; rintro e w' ⟨rfl, rfl⟩)
                exact door_bad HR3.out HX1.out HBAD.out rfl rfl rfl
        · have q3i : ¬ 4 * (N : Int) + 4 ≤ (n : Int) := by omega
          have d3 : decide (4 * N + 4 ≤ n) = false := decide_eq_false q3
          have d3i : decide (4 * (N : Int) + 4 ≤ (n : Int)) = false := decide_eq_false q3i
          have hbad : ∀ l, ¬ IsBlk b l := fun l hl => by have h1 := (HPAR.out l hl).1; have h2 := hl.parts.2.2.2.2.1; omega
          have HBAD := Lib.hid hbad
          clear hbad
          go_wp2_with (go_at_call 56; refine (ask_no _).mono ?_; rintro e w' ⟨rfl, rfl⟩)
          exact door_bad HR1.out X1 HBAD.out rfl rfl rfl
      · have q2i : ¬ (N : Int) ≤ 1024 := by omega
        have d2 : decide (N ≤ 1024) = false := decide_eq_false q2
        have d2i : decide ((N : Int) ≤ 1024) = false := decide_eq_false q2i
        have hbad : ∀ l, ¬ IsBlk b l := fun l hl => by have h1 := (HPAR.out l hl).1; have h2 := hl.parts.2.2.2.1; omega
        have HBAD := Lib.hid hbad
        clear hbad
        go_wp2_with (go_at_call 56; refine (ask_no _).mono ?_; rintro e w' ⟨rfl, rfl⟩)
        exact door_bad HR1.out X1 HBAD.out rfl rfl rfl
    · have q1i : ¬ (1 : Int) ≤ (N : Int) := by omega
      have d1 : decide (1 ≤ N) = false := decide_eq_false q1
      have d1i : decide ((1 : Int) ≤ (N : Int)) = false := decide_eq_false q1i
      have hbad : ∀ l, ¬ IsBlk b l := fun l hl => by have h1 := (HPAR.out l hl).1; have h2 := hl.parts.2.2.1; omega
      have HBAD := Lib.hid hbad
      clear hbad
      go_wp2_with (go_at_call 56; refine (ask_no _).mono ?_; rintro e w' ⟨rfl, rfl⟩)
      exact door_bad HR1.out X1 HBAD.out rfl rfl rfl
  · have n8i : ¬ (8 : Int) ≤ (n : Int) := by omega
    have d8 : decide (8 ≤ n) = false := decide_eq_false n8
    have d8i : decide ((8 : Int) ≤ (n : Int)) = false := decide_eq_false n8i
    have hbad : ∀ l, ¬ IsBlk b l := fun l hl => by have := hl.parts.1; omega
    have HBAD := Lib.hid hbad
    clear hbad
    go_wp2_with (go_at_call 56; refine (ask_no _).mono ?_; rintro e w' ⟨rfl, rfl⟩)
    exact door_bad (r3_new w) (by with_reducible (repeat (first | exact Ext.rfl_ _ | assumption | refine Ext.drew ?_ | refine Ext.drewN ?_ _ | refine Ext.alloc ?_ _ | refine Ext.trans ?_ (by assumption)))) HBAD.out rfl rfl rfl
end Go.Proofs.Ythfhococglbpoaa
