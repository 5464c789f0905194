/- Contract of the reference's Read of blocks. Conditions: the bytes read. -/
/- Contract of the reference's Get of blocks; the walks of BlockGets and BlockGoes. Conditions: the bytes and the key read. -/
import Derived.Test.YthfhococglbpoaaBlkV
namespace Go.Proofs.Ythfhococglbpoaa
set_option linter.unusedSimpArgs false
set_option linter.unusedVariables false
open Go.RowKit

theorem ent_none {b rest : Bs} {xs : List Ent} (h : BodAt b xs rest) (hr : rest ≠ []) (hno : ∀ y r, pEnt (keyL [] xs) rest = some (y, r) → mayE y = false) : ∀ l, ¬ IsBlk b l := by
  cases hp : pEnt (keyL [] xs) rest with
  | none => exact h.bad hp hr
  | some p =>
    obtain ⟨y, r⟩ := p
    intro l hl
    obtain ⟨h3, _, _⟩ := (h.next hp) l hl
    have hm : y ∈ l := List.mem_of_mem_take (i := (xs ++ [y]).length) (by rw [h3]; simp)
    have h5 := hl.may y hm
    rw [hno y r hp] at h5
    cases h5
theorem no_may {b rest : Bs} {xs : List Ent} (h : BodAt b xs rest) (hx : rest = [] ∨ 1024 ≤ xs.length) (hm : mayL xs = false) : ∀ l, ¬ IsBlk b l := by
  intro l hl
  by_cases hr : rest = []
  · subst hr
    have := h.end_ l hl
    subst this
    rw [hl.1] at hm
    cases hm
  · exact h.many (by rcases hx with h | h; exact absurd h hr; exact h) hr l hl
theorem Rdr1.grown {L : Nat} {w w' : World} {g : Nat} {x : Bs} {row : Option Nat} (h : Rdr1 L w g x) (k : w.grownBy w' row) (hr : ∀ q, row = some q → L ≤ q ∧ q ≠ g) : Rdr1 L w' g x := by
  obtain ⟨A, n, c, h1, ⟨h2, h3⟩, h4⟩ := h
  refine ⟨A, n, c, (k.block _ (Array.getElem?_eq_some_iff.1 h1).1 (fun e => (hr _ e.symm).2 rfl)).trans h1, ⟨⟨h2.1, fun hn => ?_⟩, h3⟩, h4⟩
  obtain ⟨b, o, e, hc⟩ := h2.2 hn
  refine ⟨b, o, e, fun j hj => ?_⟩
  have hb : b < L := h3 hn _ e
  have hlt := cell_lt (hc j hj)
  have hbk := k.block b hlt (fun e => by have := (hr _ e.symm).1; omega)
  have := hc j hj
  unfold World.cell? at this ⊢
  simp only at this ⊢
  rw [hbk]
  exact this

theorem OwnF.apart {w : World} {base g : Nat} {v : Value} {xs : List Ent} (h : OwnF w base v xs) {cs : Array Value} {t : TypeId} {fr : Nat × Nat} (hg : w.heap[g]? = some (.cells cs t fr)) (ht : t ≠ 28) : ∀ q, v.ownBlock = some q → q ≠ g := by
  obtain ⟨hs, hl, ho, hr⟩ := h
  intro q hq e
  subst e
  rcases ho.2 with ⟨rfl, _⟩ | ⟨g', cap, cur, rfl, _, hg', _⟩
  · simp [Value.ownBlock] at hq
  · simp [Value.ownBlock] at hq
    subst hq
    rw [hg] at hg'
    injection hg' with e1
    injection e1 with _ e2
    exact ht e2

/-- What stands in a round of the reference's Read. -/
def RdI (w : World) (b : Bs) (g : Nat) (xs : List Ent) (rest : Bs) (vl vb : Value) (wr : World) : Prop :=
  Ext w wr ∧ OwnF wr w.heap.size vl xs ∧ Rdr1 w.heap.size wr g rest ∧ OwnB wr w.heap.size vb (keyL [] xs) ∧ BodAt b xs rest ∧ xs.length ≤ 1025 ∧ (keyL [] xs).length ≤ 65536

/-- What the reference's Read answers. -/
def RdPost (w : World) (b : Bs) (e : Ending) (w' : World) : Prop :=
  ∃ vl va, e = .returned (.tuple #[vl, va, .int .i64 (opN b)]) ∧ OwnF w' w.heap.size vl (opE b) ∧ OwnI w' w.heap.size va (posI (opE b)) ∧ Ext w w'
theorem RdPost.no {w w' : World} {b : Bs} (h : ∀ l, ¬ IsBlk b l) (hx : Ext w w') : RdPost w b (.returned (.tuple #[.slice none 0 0, .slice none 0 0, .int .i64 4])) w' := by
  obtain ⟨h1, h2⟩ := op_no h
  refine ⟨_, _, by rw [h2], by rw [h1]; exact OwnF.nil _ _, by rw [h1]; exact OwnI.nil _ _, hx⟩
theorem RdPost.yes {w w' : World} {b : Bs} {xs : List Ent} {vl va : Value} (h : IsBlk b xs) (hF : OwnF w' w.heap.size vl xs) (hI : OwnI w' w.heap.size va (posI xs)) (hx : Ext w w') : RdPost w b (.returned (.tuple #[vl, va, .int .i64 0])) w' := by
  obtain ⟨h1, h2⟩ := op_yes h
  refine ⟨_, _, by rw [h2], by rw [h1]; exact hF, by rw [h1]; exact hI, hx⟩

set_option maxRecDepth 100000 in
set_option maxHeartbeats 4000000 in
theorem rreadB_any (A : Option Addr) (n c : Nat) (b : Bs) (w : World) (hx : Rd w A n b) (hnc : n ≤ c) (hn : n ≤ B40) :
    Calls Try.prog 17 #[.slice A n c] w (RdPost w b) := by
  have HX := Lib.hid hx
  have hbl := hx.1
  have HN40 := Lib.hid hn
  unfold B40 at hn
  clear hx
  go_enter Try.func17, Try.ntmps17
  by_cases n8 : (n : Int) < 8
  · have hbad := k85 (b := b) (by omega)
    have HBAD := Lib.hid hbad
    clear hbad
    have d8 : decide (n < 8) = true := decide_eq_true (by omega)
    go_wp2
    refine bodyPost_ret (v := .tuple #[.slice none 0 0, .slice none 0 0, .int .i64 4]) (by simp [results, Try.f17, go_sem]) rfl ?_
    exact RdPost.no HBAD.out (Ext.rfl_ _)
  · have d8 : decide ((n : Int) < 8) = false := decide_eq_false n8
    have d8n : decide (n < 8) = false := decide_eq_false (by omega)
    have n8' : 8 ≤ n := by omega
    obtain ⟨bA, o, rfl, _⟩ := HX.out.at_ (by omega)
    have hx4 : Rd w (some ⟨bA, o + (n - 4), none⟩) 4 (b.drop (n - 4)) := by
      have := HX.out.tail (k := n - 4) (by omega)
      rwa [show n - (n - 4) = 4 by omega] at this
    have HX4 := Lib.hid hx4
    have hw4 : (b.drop (n - 4)).length = 4 := hx4.1
    clear hx4
    have m4 : wrap64 ((n : Int) - 4) = (n : Int) - 4 := w64 (by omega) (by omega)
    obtain ⟨N, hN⟩ : ∃ N, N = un4 (b.drop (n - 4)) := ⟨_, rfl⟩
    have HN := Lib.hid hN
    clear hN
    go_wp2_with fail
    rw [show n - (n - 4) = 4 by omega]
    refine (rnumber_any _ _ _ (b.drop (n - 4)) _ (HX4.out.ext (by with_reducible (repeat (first | exact Ext.rfl_ _ | assumption | refine Ext.drew ?_ | refine Ext.drewN ?_ _ | refine Ext.alloc ?_ _ | refine Ext.trans ?_ (by assumption))))) (by omega)).mono ?_
    rintro e w1 ⟨rfl, hw1⟩
    rw [← HN.out]
    have X1 := Lib.hid hw1
    have hN32 : N < 4294967296 := by rw [HN.out]; exact un4_lt _
    have hpar : ∀ l, IsBlk b l → (posB l).length = N ∧ 1 ≤ N ∧ N ≤ 256 ∧ 4 * N + 4 ≤ n ∧ bodB l = b.take (n - 4 - 4 * N) := fun l hl => by
      obtain ⟨_, h1, h2, h3, h4, h5⟩ := hl.parts
      rw [hbl] at h1 h4 h5
      rw [HN.out, h1]
      exact ⟨rfl, h2, h3, h4, h5.symm⟩
    have HPAR := Lib.hid hpar
    clear hpar hw1 HX4 hw4
    by_cases q1 : (N : Int) < 1
    · have hN0 : N = 0 := by omega
      subst hN0
      have HBAD := Lib.hid (fun l hl => by have := (HPAR.out l hl).2.1; omega : ∀ l, ¬ IsBlk b l)
      clear q1
      go_wp2
      refine bodyPost_ret (v := .tuple #[.slice none 0 0, .slice none 0 0, .int .i64 4]) (by simp [results, Try.f17, go_sem]) rfl ?_
      exact RdPost.no HBAD.out X1.out
    · have d1 : decide ((N : Int) < 1) = false := decide_eq_false q1
      have d1n : decide (N < 1) = false := decide_eq_false (by omega)
      have dn0 : ¬ N = 0 := by omega
      by_cases q2 : (1024 : Int) < (N : Int)
      · have HBAD := Lib.hid (fun l hl => by have := (HPAR.out l hl).2.2.1; omega : ∀ l, ¬ IsBlk b l)
        have d2 : decide (1024 < N) = true := decide_eq_true (by omega)
        go_wp2
        refine bodyPost_ret (v := .tuple #[.slice none 0 0, .slice none 0 0, .int .i64 4]) (by simp [results, Try.f17, go_sem]) rfl ?_
        exact RdPost.no HBAD.out X1.out
      · have d2 : decide ((1024 : Int) < (N : Int)) = false := decide_eq_false q2
        have d2n : decide (1024 < N) = false := decide_eq_false (by omega)
        have m5 : wrap64 (4 * (N : Int)) = 4 * (N : Int) := w64 (by omega) (by omega)
        have m6 : wrap64 (4 * (N : Int) + 4) = 4 * (N : Int) + 4 := w64 (by omega) (by omega)
        by_cases q3 : (n : Int) < 4 * (N : Int) + 4
        · have HBAD := Lib.hid (fun l hl => by have := (HPAR.out l hl).2.2.2.1; omega : ∀ l, ¬ IsBlk b l)
          have d3 : decide (n < 4 * N + 4) = true := decide_eq_true (by omega)
          go_wp2
          refine bodyPost_ret (v := .tuple #[.slice none 0 0, .slice none 0 0, .int .i64 4]) (by simp [results, Try.f17, go_sem]) rfl ?_
          exact RdPost.no HBAD.out X1.out
        · have d3 : decide ((n : Int) < 4 * (N : Int) + 4) = false := decide_eq_false q3
          have d3n : decide (n < 4 * N + 4) = false := decide_eq_false (by omega)
          have m7 : wrap64 ((n : Int) - 4 - 4 * (N : Int)) = (n : Int) - 4 - 4 * (N : Int) := w64 (by omega) (by omega)
          have q3i : 4 * (N : Int) + 4 ≤ (n : Int) := by omega
          obtain ⟨L, hL⟩ : ∃ L, L = n - 4 - 4 * N := ⟨_, rfl⟩
          have hLn : L ≤ n := by omega
          have hbod : Rd w (some ⟨bA, o, none⟩) L (b.take L) := HX.out.pre hLn
          have hr0 : Rdr1 w.heap.size (w1.alloc (.cells #[.slice (some ⟨bA, o, none⟩) L c] 71)) w1.heap.size (b.take L) :=
            ⟨_, L, c, blk1 w1 _, ⟨(hbod.ext X1.out).ext (Ext.alloc (Ext.rfl_ _) _), Lo.of hbod (Nat.le_refl _)⟩, by omega, by unfold B40; omega⟩
          have hP : ∀ l, IsBlk b l → b.take L = bodB l := fun l hl => by rw [hL]; exact ((HPAR.out l hl).2.2.2.2).symm
          have hI0 : RdI w b w1.heap.size [] (b.take L) (.slice none 0 0) (.slice none 0 0) (w1.alloc (.cells #[.slice (some ⟨bA, o, none⟩) L c] 71)) :=
            ⟨X1.out.trans (Ext.alloc (Ext.rfl_ _) _), OwnF.nil _ _, hr0, OwnB.nil _ _, BodAt.start hP, Nat.zero_le _, Nat.zero_le _⟩
          have HI0 := Lib.hid hI0
          have hg0 : w.heap.size ≤ w1.heap.size := Ext.size X1.out
          have HLL := Lib.hid hL
          clear hI0 hr0 hP hbod HPAR
          go_wp2_with fail
          rw [← hL]
          clear hL
          obtain ⟨g, hg⟩ : ∃ g, g = w1.heap.size := ⟨_, rfl⟩
          rw [← hg] at HI0 hg0 ⊢
          clear hg
          go_loopw [7, 8] (fun vl vb wr => ∃ xs rest, RdI w b g xs rest vl vb wr) (fun vl _ _ => 1026 - sLen (some vl))
          case atStart => exact ⟨_, _, HI0.out⟩
          case round =>
            obtain ⟨xs, rest, hX, hF, hR, hB, hBod, hx4, hkl⟩ := hrel
            have hrl : rest.length ≤ 1099511627776 := by
              obtain ⟨_, n', c', _, ⟨hrd, _⟩, _, hn'⟩ := hR
              have := hrd.1
              unfold B40 at hn'
              omega
            obtain ⟨Al, cl, rfl, hcl, hrdl, hil, _⟩ := hF.ownL.form (by unfold B41; omega)
            obtain ⟨Bb, db, rfl, hdb, hrb, _⟩ := hB.form
            have HX1 := Lib.hid hX
            have HF := Lib.hid hF
            have HR := Lib.hid hR
            have HB := Lib.hid hB
            have HBod := Lib.hid hBod
            have HRB := Lib.hid hrb
            have HRDL := Lib.hid hrdl
            clear hX hF hR hB hBod hrb hrdl hil
            by_cases hre : rest = []
            · have hrz : rest.length = 0 := by rw [hre]; rfl
              go_wp2_with fail
              refine (r1left_any g rest _ HR.out).mono ?_
              rintro e w' ⟨rfl, rfl⟩
              rw [hrz]
              subst hre
              clear hrz
              go_wp2_with fail
              refine (rmayL_any Al _ cl xs _ HRDL.out hcl).mono ?_
              rintro e w3 ⟨rfl, hw3⟩
              have X3 := Lib.hid (HX1.out.trans hw3)
              have HRDL3 := Lib.hid (HRDL.out.ext hw3)
              have HF3 := Lib.hid (HF.out.ext hw3)
              clear hw3
              cases hm : mayL xs with
              | false =>
                have HBAD := Lib.hid (no_may HBod.out (.inl rfl) hm)
                clear hm
                go_wp2
                refine bodyPost_ret (v := .tuple #[.slice none 0 0, .slice none 0 0, .int .i64 4]) (by simp [results, Try.f17, go_sem]) rfl ?_
                exact RdPost.no HBAD.out X3.out
              | true =>
                have HM := Lib.hid hm
                clear hm
                go_wp2_with fail
                refine (rwriteB_any Al _ cl xs _ HRDL3.out hcl HM.out).mono ?_
                rintro e w5 ⟨vb5, va5, rfl, ob5, oi5, hw5⟩
                obtain ⟨A5, n5, c5, rfl, l5, r5, _⟩ := ob5.formN
                have X5 := Lib.hid (X3.out.trans hw5)
                have HF5 := Lib.hid (HF3.out.ext hw5)
                have hS3 : w.heap.size ≤ w3.heap.size := Ext.size X3.out
                have HI5 : Hid (OwnI w5 w.heap.size va5 (posI xs)) := Lib.hid ⟨oi5.1, oi5.2.imp id (fun ⟨q, cap, cur, e, hq, r⟩ => ⟨q, cap, cur, e, Nat.le_trans hS3 hq, r⟩)⟩
                have s1 := r5.str (P := Try.prog) c5 22 5 9 Try.underlying22 Try.underlying5 Try.underlying9
                have s2 := (HX.out.ext X5.out).str (P := Try.prog) c 22 5 9 Try.underlying22 Try.underlying5 Try.underlying9
                clear ob5 oi5 r5 hw5
                by_cases hq : blkB xs = b
                · have HIS := Lib.hid (show IsBlk b xs from ⟨HM.out, hq⟩)
                  subst hq
                  go_wp2
                  refine bodyPost_ret (v := .tuple #[.slice Al xs.length cl, va5, .int .i64 0]) (by simp [results, Try.f17, go_sem]) rfl ?_
                  exact RdPost.yes HIS.out HF5.out HI5.out X5.out
                · have HBAD : Hid (∀ l, ¬ IsBlk b l) := Lib.hid (fun l hl => by
                    have e := HBod.out.end_ l hl
                    subst e
                    exact hq hl.2)
                  have s3 : (blkB xs == b) = false := by simpa using hq
                  go_wp2
                  refine bodyPost_ret (v := .tuple #[.slice none 0 0, .slice none 0 0, .int .i64 4]) (by simp [results, Try.f17, go_sem]) rfl ?_
                  exact RdPost.no HBAD.out X5.out
            · have hrz : 0 < rest.length := by
                cases rest with
                | nil => exact absurd rfl hre
                | cons a t => simp
              have hrzi : (0 : Int) < (rest.length : Int) := by omega
              by_cases hxl : (xs.length : Int) ≤ 1024
              · go_wp2_with fail
                refine (r1left_any g rest _ HR.out).mono ?_
                rintro e w' ⟨rfl, rfl⟩
                go_wp2_with fail
                refine (rentry_any g Bb _ db (keyL [] xs) rest _ HR.out HRB.out hdb hkl).mono ?_
                rintro e w3 ⟨hent, hc3⟩
                obtain ⟨Ar, nr, cr, _, _, _, _, _, hgr, _⟩ := HR.out.cells
                have HK3 := Lib.hid (Kx.of_chg hc3 hgr)
                have HF3 := Lib.hid (HF.out.kx HK3.out (by decide) (by decide))
                have X3 := Lib.hid (HX1.out.chg hc3 hg0)
                have s13 := hc3.size
                have hlow := Ext.size HX1.out
                clear hc3 hgr
                rcases hent with ⟨v, y, r', rfl, hp, hmy, hf, hr'⟩ | ⟨A5, n5, c5, s5, k5, B5, m5, d5, rfl, hno⟩
                · have hfl := hf.low hlow
                  obtain ⟨A5, n5, c5, B5, m5, d5, rfl, hk5, _⟩ := id hfl
                  have HFE := Lib.hid hfl
                  have HK5 := Lib.hid hk5
                  have HP := Lib.hid hp
                  have HMY := Lib.hid hmy
                  have HR' := Lib.hid hr'
                  obtain ⟨_, _, _, _, _, _, _, _, hgr', _⟩ := hr'.cells
                  have HFne := Lib.hid (HF3.out.apart hgr' (by decide))
                  clear hgr'
                  clear hf hfl hk5 hp hmy hr'
                  have hE3 := blk1 w3 (.cells #[.slice A5 n5 c5, .int .i64 y.seq, .int .i64 y.kind, .slice B5 m5 d5] 28)
                  have HE3 := Lib.hid hE3
                  obtain ⟨z0, z1, z2, z3, y0, y1, y2f, y3⟩ := cells4 hE3
                  have xE : Ext w3 (w3.alloc (.cells #[.slice A5 n5 c5, .int .i64 y.seq, .int .i64 y.kind, .slice B5 m5 d5] 28)) := Ext.alloc (Ext.rfl_ _) _
                  have XE := Lib.hid xE
                  clear hE3 xE
                  go_wp2_with (first | (at_builtin; refine wp_appF rfl _ _ rfl w.heap.size _ xs rfl (w3.alloc (.cells #[.slice A5 n5 c5, .int .i64 y.seq, .int .i64 y.kind, .slice B5 m5 d5] 28)) 28 ⟨A5, n5, c5, B5, m5, d5⟩ y rfl (HF3.out.ext XE.out) (HFE.out.kx (T := 71) (Kx.of_ext XE.out) (by decide)) (by rw [World.size_alloc]; rfl) (by omega) (Ext.size (X3.out.trans XE.out)) ?_; intro v6 w6 o6 k6 g6; have Z6 := Lib.hid (Ext.grown ((X3.out.trans XE.out).trans (Ext.alloc (Ext.rfl_ _) _)) g6 (fun q hq => (HF3.out.lt q hq).1)); have R6 := Lib.hid (((HR'.out.ext XE.out).ext (Ext.alloc (Ext.rfl_ _) _)).grown g6 (fun q hq => ⟨(HF3.out.lt q hq).1, HFne.out q hq⟩)); have O6 := Lib.hid o6; have B6 := Lib.hid (((HK5.out.ext XE.out)).kx k6 (by decide)); obtain ⟨z0, z1, z2, z3, y0, y1, y2f, y3⟩ := cells4 ((g6.block _ (by rw [World.size_alloc, World.size_alloc]; omega) (fun e => (by have := (HF3.out.lt _ e.symm).2; omega))).trans ((Ext.alloc (Ext.rfl_ _) _).blk HE3.out)); clear o6 k6 g6))
                  go_roundw
                  case rel =>
                    have h32 : y.key.length ≤ 32 := (mayE_iff.1 HMY.out).2.1
                    exact ⟨xs ++ [y], r', Z6.out, O6.out, R6.out, by rw [keyL_snoc]; exact B6.out, HBod.out.next HP.out, by simp; omega, by rw [keyL_snoc]; omega⟩
                  case measure =>
                    obtain ⟨Aq, cq, hvq, _⟩ := O6.out.ownL.form (by simp; unfold B41; omega)
                    subst hvq
                    simp [sLen]; omega
                · have HBAD := Lib.hid (ent_none HBod.out hre hno)
                  clear hno
                  go_wp2
                  refine bodyPost_ret (v := .tuple #[.slice none 0 0, .slice none 0 0, .int .i64 4]) (by simp [results, Try.f17, go_sem]) rfl ?_
                  exact RdPost.no HBAD.out (X3.out.trans (by with_reducible (repeat (first | exact Ext.rfl_ _ | assumption | refine Ext.drew ?_ | refine Ext.drewN ?_ _ | refine Ext.alloc ?_ _ | refine Ext.trans ?_ (by assumption)))))
              · have hxl1 : 1024 ≤ xs.length := by omega
                have dx : decide ((xs.length : Int) ≤ 1024) = false := decide_eq_false hxl
                have dxn : decide (xs.length ≤ 1024) = false := decide_eq_false (by omega)
                have hm : mayL xs = false := by
                  cases h : mayL xs with
                  | false => rfl
                  | true => have := (isblk_self h).len.2; omega
                have HM := Lib.hid hm
                clear hm
                go_wp2_with fail
                refine (r1left_any g rest _ HR.out).mono ?_
                rintro e w' ⟨rfl, rfl⟩
                go_wp2_with fail
                refine (rmayL_any Al _ cl xs _ HRDL.out hcl).mono ?_
                rintro e w3 ⟨rfl, hw3⟩
                rw [HM.out]
                have X3 := Lib.hid (HX1.out.trans hw3)
                clear hw3
                have HBAD := Lib.hid (no_may HBod.out (.inr hxl1) HM.out)
                go_wp2
                refine bodyPost_ret (v := .tuple #[.slice none 0 0, .slice none 0 0, .int .i64 4]) (by simp [results, Try.f17, go_sem]) rfl ?_
                exact RdPost.no HBAD.out X3.out

open Go.RowKit

set_option maxRecDepth 100000 in
set_option maxHeartbeats 2000000 in
theorem rgetB_any (A : Option Addr) (n c : Nat) (b : Bs) (B : Option Addr) (m d : Nat) (k : Bs) (sq : Int) (w : World) (hx : Rd w A n b) (hnc : n ≤ c) (hn : n ≤ B40) (hk : Rd w B m k) :
    Calls Try.prog 14 #[.slice A n c, .slice B m d, .int .i64 sq] w fun e w' => (∃ v, e = .returned (.tuple #[v, .int .i64 (bgN b k sq)]) ∧ RdE w' v (bgE b k sq)) ∧ Ext w w' := by
  have HX := Lib.hid hx
  have HK := Lib.hid hk
  have hz := blk1 w (.cells #[.slice none 0 0, .int .i64 0, .int .i64 0, .slice none 0 0] 28)
  have HZ := Lib.hid hz
  clear hx hk hz
  go_enter Try.func14, Try.ntmps14
  go_wp2_with fail
  refine (rreadB_any A n c b _ (HX.out.ext (by with_reducible (repeat (first | exact Ext.rfl_ _ | assumption | refine Ext.drew ?_ | refine Ext.drewN ?_ _ | refine Ext.alloc ?_ _ | refine Ext.trans ?_ (by assumption))))) hnc hn).mono ?_
  rintro e w1 ⟨vl, va, rfl, hF, -, hw1⟩
  have hlen := opE_len b
  obtain ⟨Al, nl, cl, rfl, hcl, hrl, _⟩ := hF.ownL.formN (by unfold B41; omega)
  have HRL := Lib.hid hrl
  have HZ1 := Lib.hid (hw1.blk HZ.out)
  have X1 : Hid (Ext w w1) := Lib.hid ((Ext.alloc (Ext.rfl_ _) _).trans hw1)
  clear hF hrl hw1 hlen
  obtain ⟨z0, z1, z2, z3, y0, y1, y2f, y3⟩ := cells4 HZ1.out
  rcases opN_or b with hop | hop
  · have hgE : bgE b k sq = ((opE b).find? (getP k sq)).getD ent0 := rfl
    have hgN : bgN b k sq = gN ((opE b).find? (getP k sq)) := by unfold bgN; rw [if_pos hop]
    rw [hop]
    have HGE := Lib.hid hgE
    have HGN := Lib.hid hgN
    clear hgE hgN hop
    go_wp2_with fail
    refine (rget_any Al nl cl (opE b) B m d k sq w1 _ (Ext.rfl_ _) HRL.out hcl (HK.out.ext X1.out)).mono ?_
    rintro e w2 ⟨⟨v, rfl, hv⟩, hw2⟩
    obtain ⟨x, hxx⟩ : ∃ x, x = ((opE b).find? (getP k sq)).getD ent0 := ⟨_, rfl⟩
    obtain ⟨z, hzz⟩ : ∃ z, z = gN ((opE b).find? (getP k sq)) := ⟨_, rfl⟩
    rw [← hxx] at hv
    rw [← hzz]
    have HXX := Lib.hid hxx
    have HZZ := Lib.hid hzz
    clear hxx hzz
    obtain ⟨A5, n5, c5, B5, m5, d5, rfl, _⟩ := id hv
    have HV := Lib.hid (hv.ext hw2)
    have HZ2 := Lib.hid (hw2.blk HZ1.out)
    have X2 := Lib.hid (X1.out.trans hw2)
    clear hv hw2 z0 z1 z2 z3 y0 y1 y2f y3
    obtain ⟨z0, z1, z2, z3, y0, y1, y2f, y3⟩ := cells4 HZ2.out
    go_wp2
    refine bodyPost_ret (v := .tuple #[.agg #[.slice A5 n5 c5, .int .i64 x.seq, .int .i64 x.kind, .slice B5 m5 d5], .int .i64 z]) (by simp [results, Try.f14, go_sem, z0, z1, z2, z3]) rfl ?_
    rw [HGE.out, HGN.out, ← HXX.out, ← HZZ.out]
    exact ⟨⟨_, rfl, rdE_set4 HV.out HZ2.out⟩, ((((X2.out.setCell (p := ⟨w.heap.size, 0, none⟩) (by simp) _).setCell (p := ⟨w.heap.size, 1, none⟩) (by simp) _).setCell (p := ⟨w.heap.size, 2, none⟩) (by simp) _).setCell (p := ⟨w.heap.size, 3, none⟩) (by simp) _)⟩
  · have hE : opE b = [] := by
      unfold opN at hop
      unfold opE
      cases h : blkR b with
      | none => rfl
      | some l => rw [h] at hop; simp at hop
    have hbE : bgE b k sq = ent0 := by unfold bgE; rw [hE]; rfl
    have hbN : bgN b k sq = 4 := by unfold bgN; rw [if_neg (by rw [hop]; decide)]
    rw [hop]
    have HBE := Lib.hid hbE
    have HBN := Lib.hid hbN
    clear hbE hbN hop hE
    go_wp2
    refine bodyPost_ret (v := .tuple #[.agg #[.slice none 0 0, .int .i64 0, .int .i64 0, .slice none 0 0], .int .i64 4]) (by simp [results, Try.f14, go_sem, z0, z1, z2, z3]) rfl ?_
    rw [HBE.out, HBN.out]
    exact ⟨⟨_, rfl, (FrE.zero _ 0).rd⟩, ((((X1.out.setCell (p := ⟨w.heap.size, 0, none⟩) (by simp) _).setCell (p := ⟨w.heap.size, 1, none⟩) (by simp) _).setCell (p := ⟨w.heap.size, 2, none⟩) (by simp) _).setCell (p := ⟨w.heap.size, 3, none⟩) (by simp) _)⟩

set_option maxRecDepth 100000 in
set_option maxHeartbeats 2000000 in
theorem gets_walk (A : Option Addr) (n c : Nat) (B : Option Addr) (m d : Nat) (sq : Int) (b k : Bs) (w : World) (hx : Rd w A n b) (hnc : n ≤ c) (hn : n ≤ B47) (hk : Rd w B m k) (hmd : m ≤ d) (hm : m ≤ B47) :
    Calls Try.prog 4 #[.slice A n c, .slice B m d, .int .i64 sq] w fun e w' => e = .returned (.bool true) ∧ Ext w w' := by
  have HX := Lib.hid hx
  have HK := Lib.hid hk
  clear hx hk
  go_enter Try.func4, Try.ntmps4
  by_cases h9 : (100000 : Int) < (n : Int)
  · have d9 : decide (100000 < n) = true := decide_eq_true (by omega)
    go_wp2_with fail
    refine (known_any _).mono ?_
    rintro e w1 ⟨rfl, hw1⟩
    go_wp2
    go_ret
    exact ⟨rfl, (by with_reducible (repeat (first | exact Ext.rfl_ _ | assumption | refine Ext.drew ?_ | refine Ext.drewN ?_ _ | refine Ext.alloc ?_ _ | refine Ext.trans ?_ (by assumption))))⟩
  · have d9 : decide ((100000 : Int) < (n : Int)) = false := decide_eq_false h9
    have d9n : decide (100000 < n) = false := decide_eq_false (by omega)
    by_cases h8 : (9000 : Int) < (m : Int)
    · have d8 : decide (9000 < m) = true := decide_eq_true (by omega)
      go_wp2_with fail
      refine (known_any _).mono ?_
      rintro e w1 ⟨rfl, hw1⟩
      go_wp2
      go_ret
      exact ⟨rfl, (by with_reducible (repeat (first | exact Ext.rfl_ _ | assumption | refine Ext.drew ?_ | refine Ext.drewN ?_ _ | refine Ext.alloc ?_ _ | refine Ext.trans ?_ (by assumption))))⟩
    · have d8 : decide ((9000 : Int) < (m : Int)) = false := decide_eq_false h8
      have d8n : decide (9000 < m) = false := decide_eq_false (by omega)
      go_wp2_with fail
      refine (bget_any A n c b B m d k sq _ HX.out hnc (by unfold B40; omega) HK.out hmd (by unfold B40; omega)).mono ?_
      rintro e w1 ⟨⟨v, rfl, hv⟩, hw1⟩
      obtain ⟨x, hxx⟩ : ∃ x, x = bgE b k sq := ⟨_, rfl⟩
      obtain ⟨z, hzz⟩ : ∃ z, z = bgN b k sq := ⟨_, rfl⟩
      rw [← hxx] at hv
      rw [← hzz]
      have HXX := Lib.hid hxx
      have HZZ := Lib.hid hzz
      clear hxx hzz
      obtain ⟨A5, n5, c5, B5, m5, d5, rfl, _⟩ := id hv
      have HV := Lib.hid hv
      have X1 := Lib.hid hw1
      have hE1 := blk1 w1 (.cells #[.slice A5 n5 c5, .int .i64 x.seq, .int .i64 x.kind, .slice B5 m5 d5] 28)
      have HE1 := Lib.hid hE1
      have XE : Hid (Ext w1 (w1.alloc (.cells #[.slice A5 n5 c5, .int .i64 x.seq, .int .i64 x.kind, .slice B5 m5 d5] 28))) := Lib.hid (Ext.alloc (Ext.rfl_ _) _)
      clear hv hw1 hE1
      go_wp2_with fail
      refine (rgetB_any A n c b B m d k sq _ (HX.out.ext (X1.out.trans XE.out)) hnc (by unfold B40; omega) (HK.out.ext (X1.out.trans XE.out))).mono ?_
      rintro e w2 ⟨⟨v, rfl, hv⟩, hw2⟩
      rw [← HXX.out] at hv
      rw [← HZZ.out]
      obtain ⟨A6, n6, c6, B6, m6, d6, rfl, _⟩ := id hv
      have HV2 := Lib.hid hv
      have HV1 := Lib.hid (HV.out.ext (XE.out.trans hw2))
      have X2 := Lib.hid (X1.out.trans (XE.out.trans hw2))
      have HE2 := Lib.hid (hw2.blk HE1.out)
      have XF : Hid (Ext w2 (w2.alloc (.cells #[.slice A6 n6 c6, .int .i64 x.seq, .int .i64 x.kind, .slice B6 m6 d6] 28))) := Lib.hid (Ext.alloc (Ext.rfl_ _) _)
      have HF2 := Lib.hid (blk1 w2 (.cells #[.slice A6 n6 c6, .int .i64 x.seq, .int .i64 x.kind, .slice B6 m6 d6] 28))
      have hlt : w1.heap.size < w2.heap.size := (Array.getElem?_eq_some_iff.1 HE2.out).1
      clear hv hw2
      obtain ⟨z0, z1, z2, z3, y0, y1, y2f, y3⟩ := cells4 HE2.out
      obtain ⟨b0, b1, b2, b3, f0, f1, f2, f3⟩ := cells4 (XF.out.blk HE2.out)
      obtain ⟨a0, a1, a2, a3, g0, g1, g2, g3⟩ := cells4 HF2.out
      have hzb : (z == z) = true := by simp
      go_wp2_with fail
      refine (rsame_self _ _ x _ (HV1.out.ext XF.out) (HV2.out.ext XF.out)).mono ?_
      rintro e w3 ⟨rfl, hw3⟩
      have X3 := Lib.hid (X2.out.trans (XF.out.trans hw3))
      clear hw3
      go_wp2_with fail
      refine (num_any _ _).mono ?_
      rintro e w4 ⟨rfl, rfl⟩
      go_wp2_with fail
      refine (known_any _).mono ?_
      rintro e w4 ⟨rfl, hw4⟩
      go_wp2
      go_ret
      exact ⟨rfl, X3.out.trans hw4⟩
end Go.Proofs.Ythfhococglbpoaa
