/- The plain words of the reference's reading. Conditions: none. No program here. -/
/- Contracts of the reference's reader of layer 1. Conditions: the slice, the reader read. -/
/- The reference's many, Bytes of the reader. Conditions: the reader reads. -/
/- Contract of the reference's Read (layer 5). Conditions: the slice reads. -/
import Derived.Test.YthdahmicjlplcaaReadA
import Derived.Test.YthdahmicjlplcaaKeyR
import Derived.Test.YthdahmicjlplcaaRefB
namespace Go.Proofs.Ythdahmicjlplcaa
set_option linter.unusedSimpArgs false
set_option linter.unusedVariables false

theorem lead {x : Bs} (k : Nat) (hk : k ≤ 9) (hkl : k ≤ x.length) (hb : ∀ j (h : j < k), 128 ≤ (x[j]'(by omega)).toNat) : ∃ acc, getN x = glue k acc (getF (10 - k) (x.drop k)) := by
  induction k with
  | zero => exact ⟨0, glue_zero _⟩
  | succ k ih =>
    obtain ⟨acc, h⟩ := ih (by omega) (by omega) (fun j hj => hb j (by omega))
    have hd : x.drop k = x[k] :: x.drop (k + 1) := List.drop_eq_getElem_cons (by omega)
    have e : 10 - k = (9 - k) + 1 := by omega
    have hc := hb k (by omega)
    rw [hd, e, getF_more (by omega) (by omega)] at h
    exact ⟨_, by rw [h, show 9 - k = 10 - (k + 1) from by omega]⟩

theorem w_long {x : Bs} (k : Nat) (hk : 9 < k) (hkl : k ≤ x.length) (hb : ∀ j (h : j < k), 128 ≤ (x[j]'(by omega)).toNat) : getN x = none := by
  obtain ⟨acc, h⟩ := lead (x := x) 9 (by omega) (by omega) (fun j hj => hb j (by omega))
  have hd : x.drop 9 = x[9] :: x.drop (9 + 1) := List.drop_eq_getElem_cons (by omega)
  have hc := hb 9 (by omega)
  rw [h, hd, show 10 - 9 = 1 from rfl, getF_big (f := 0) (by omega)]; rfl
theorem w_end {x : Bs} (hb : ∀ j (h : j < x.length), 128 ≤ (x[j]).toNat) : getN x = none := by
  by_cases h9 : 9 < x.length
  · exact w_long x.length h9 (Nat.le_refl _) hb
  · obtain ⟨acc, h⟩ := lead (x := x) x.length (by omega) (Nat.le_refl _) hb
    rw [h, List.drop_length, getF_nil]; rfl
theorem w_big {x : Bs} (hl : 9 < x.length) (hb : ∀ j (h : j < 9), 128 ≤ (x[j]'(by omega)).toNat) (hc : 1 < (x[9]).toNat) : getN x = none := by
  obtain ⟨acc, h⟩ := lead (x := x) 9 (by omega) (by omega) hb
  have hd : x.drop 9 = x[9] :: x.drop (9 + 1) := List.drop_eq_getElem_cons (by omega)
  rw [h, hd, show 10 - 9 = 1 from rfl, getF_big (f := 0) hc]; rfl
theorem w_zero {x : Bs} (k : Nat) (hk : k ≤ 9) (hk0 : 0 < k) (hl : k < x.length) (hb : ∀ j (h : j < k), 128 ≤ (x[j]'(by omega)).toNat) (hc : (x[k]).toNat = 0) : getN x = none := by
  obtain ⟨acc, h⟩ := lead (x := x) k hk (by omega) hb
  have hd : x.drop k = x[k] :: x.drop (k + 1) := List.drop_eq_getElem_cons (by omega)
  rw [h, hd, show 10 - k = (9 - k) + 1 from by omega, getF_zero (by omega) hc]; rfl
theorem w_ok {x : Bs} (k : Nat) (hk : k ≤ 9) (hl : k < x.length) (hb : ∀ j (h : j < k), 128 ≤ (x[j]'(by omega)).toNat) (hc : (x[k]).toNat < 128) (h9 : ¬ (k = 9 ∧ 1 < (x[k]).toNat)) (h0 : ¬ (0 < k ∧ (x[k]).toNat = 0)) :
    ∃ v, getN x = some (v, x.drop (k + 1)) := by
  obtain ⟨acc, h⟩ := lead (x := x) k hk (by omega) hb
  have hd : x.drop k = x[k] :: x.drop (k + 1) := List.drop_eq_getElem_cons (by omega)
  rw [hd, show 10 - k = (9 - k) + 1 from by omega, getF_end (by omega) (by omega) hc] at h
  exact ⟨_, h⟩

/-- The number that a form's bytes say. -/
def valF (l : Bs) : Nat := l.foldr (fun c n => c.toNat % 128 + 128 * n) 0
theorem valF_cons (c : UInt8) (l : Bs) : valF (c :: l) = c.toNat % 128 + 128 * valF l := rfl
theorem valF_drop_le (l : Bs) (k : Nat) : valF (l.drop k) ≤ valF l := by
  induction k generalizing l with
  | zero => exact Nat.le_refl _
  | succ k ih =>
    cases l with
    | nil => exact Nat.le_refl _
    | cons c l => rw [List.drop_succ_cons, valF_cons]; have := ih l; omega
theorem getF_val {f : Nat} {x : Bs} {v : Nat} {r : Bs} (h : getF f x = some (v, r)) : ∃ k, x = x.take k ++ r ∧ k ≤ x.length ∧ valF (x.take k) = v := by
  induction f generalizing x v with
  | zero => simp [getF] at h
  | succ f ih =>
    cases x with
    | nil => simp [getF] at h
    | cons c y =>
      unfold getF at h
      split at h
      · rename_i hc
        split at h
        · cases h
        · simp at h
          obtain ⟨rfl, rfl⟩ := h
          exact ⟨1, by simp, by simp, by simp [valF]; omega⟩
      · split at h
        · cases h
        · cases hg : getF f y with
          | none => rw [hg] at h; simp at h
          | some p =>
            rw [hg] at h
            simp at h
            obtain ⟨h1, h2⟩ := h
            obtain ⟨k, e, hl, hv⟩ := ih (v := p.1) (x := y) (by rw [hg, ← h2])
            refine ⟨k + 1, ?_, by simp; exact hl, ?_⟩
            · rw [List.take_succ_cons, List.cons_append, ← e]
            · rw [List.take_succ_cons, valF_cons, hv]; omega
theorem getN_val {x : Bs} {v : Nat} {r : Bs} (h : getN x = some (v, r)) : valF (x.take (x.length - r.length)) = v ∧ x.drop (x.length - r.length) = r := by
  obtain ⟨k, e, hl, hv⟩ := getF_val h
  have hr : x.length - r.length = k := by
    have := congrArg List.length e
    rw [List.length_append, List.length_take, Nat.min_eq_left hl] at this
    omega
  rw [hr]
  refine ⟨hv, ?_⟩
  have h2 : x.take k ++ x.drop k = x.take k ++ r := by rw [List.take_append_drop]; exact e
  exact List.append_cancel_left h2


open Go.RowKit

set_option maxRecDepth 100000 in
set_option maxHeartbeats 4000000 in
theorem whole_any (A : Option Addr) (n c : Nat) (x : Bs) (w : World) (hx : Rd w A n x) (hn : n ≤ B40) :
    Calls Try.prog 93 #[.slice A n c] w fun e w' => e = .returned (.int .i64 (formR x).2) ∧ w = w' := by
  have hl := hx.1
  unfold B40 at hn
  have HX := Lib.hid hx
  have HL := Lib.hid hl
  clear hx hl
  go_enter Try.func93, Try.ntmps93
  go_wp2
  go_loop [3] (fun i => ∃ k : Nat, ∃ hk : k ≤ x.length, i = .int .i64 k ∧ k ≤ n ∧ Hid (∀ j (h : j < k), 128 ≤ (x[j]'(by omega)).toNat)) (fun i => n - (intOf i).toNat)
  case atStart => exact ⟨0, Nat.zero_le _, rfl, Nat.zero_le _, Lib.hid (fun j h => absurd h (by omega))⟩
  case round =>
    obtain ⟨k, hkx, rfl, hk, hb⟩ := hrel
    by_cases c1 : (k : Int) < (n : Int)
    · obtain ⟨b, o, rfl, hcell⟩ := HX.out.at_ (by omega)
      have hk2 : k < x.length := by rw [HL.out]; omega
      have hc := hcell k hk2
      have HCELL := Lib.hid hcell
      obtain ⟨y, hy⟩ : ∃ y, y = x[k] := ⟨_, rfl⟩
      rw [← hy] at hc
      have HY := Lib.hid hy
      have hy2 := byte_mod y
      clear hcell hy
      by_cases c2 : (127 : Int) < (y.toNat : Int)
      · go_wp2
        go_round
        case rel =>
          refine ⟨k + 1, hk2, by go_num, by omega, Lib.hid (fun j hj => ?_)⟩
          by_cases hjk : j < k
          · exact hb.out j hjk
          · obtain rfl : j = k := by omega
            rw [← HY.out]; omega
        case measure => simp [intOf]; omega
      · have c2' : decide ((127 : Int) < (y.toNat : Int)) = false := decide_eq_false c2
        have hkn : ((k : Int) == (n : Int)) = false := by simp; omega
        by_cases c3 : (9 : Int) < (k : Int)
        · have hr : (0 : Int) = ((formR x).2 : Int) := by rw [formR_none (w_long k (by omega) (by omega) hb.out)]; rfl
          have HR := Lib.hid hr
          clear hr
          go_wp2
          go_ret
          exact ⟨ret_int HR.out, rfl⟩
        · have c3' : decide ((9 : Int) < (k : Int)) = false := decide_eq_false c3
          by_cases c4 : k = 9
          · subst c4
            by_cases c5 : (1 : Int) < (y.toNat : Int)
            · have hr : (0 : Int) = ((formR x).2 : Int) := by rw [formR_none (w_big (by omega) hb.out (by rw [← HY.out]; omega))]; rfl
              have HR := Lib.hid hr
              clear hr
              go_wp2
              go_ret
              exact ⟨ret_int HR.out, rfl⟩
            · have c5' : decide ((1 : Int) < (y.toNat : Int)) = false := decide_eq_false c5
              by_cases c6 : y.toNat = 0
              · have hr : (0 : Int) = ((formR x).2 : Int) := by rw [formR_none (w_zero 9 (by omega) (by omega) (by omega) hb.out (by rw [← HY.out]; exact c6))]; rfl
                have HR := Lib.hid hr
                have c6' : ((y.toNat : Int) == 0) = true := by simp [c6]
                clear hr c6
                go_wp2
                go_ret
                exact ⟨ret_int HR.out, rfl⟩
              · have hr : (10 : Int) = ((formR x).2 : Int) := by
                  obtain ⟨v, hv⟩ := w_ok (x := x) 9 (by omega) (by omega) hb.out (by rw [← HY.out]; omega) (by rw [← HY.out]; omega) (by rw [← HY.out]; omega)
                  rw [formR_some hv, List.length_drop]; simp; omega
                have HR := Lib.hid hr
                have c6' : ((y.toNat : Int) == 0) = false := by simp; omega
                clear hr
                go_wp2
                go_ret
                exact ⟨ret_int HR.out, rfl⟩
          · have c4' : ((k : Int) == 9) = false := by simp; omega
            by_cases c7 : (0 : Int) < (k : Int)
            · by_cases c6 : y.toNat = 0
              · have hr : (0 : Int) = ((formR x).2 : Int) := by rw [formR_none (w_zero k (by omega) (by omega) (by omega) hb.out (by rw [← HY.out]; exact c6))]; rfl
                have HR := Lib.hid hr
                have c6' : ((y.toNat : Int) == 0) = true := by simp [c6]
                clear hr c6
                go_wp2
                go_ret
                exact ⟨ret_int HR.out, rfl⟩
              · have hr : (k : Int) + 1 = ((formR x).2 : Int) := by
                  obtain ⟨v, hv⟩ := w_ok (x := x) k (by omega) (by omega) hb.out (by rw [← HY.out]; omega) (by omega) (by rw [← HY.out]; omega)
                  rw [formR_some hv, List.length_drop]; simp; omega
                have HR := Lib.hid hr
                have c6' : ((y.toNat : Int) == 0) = false := by simp; omega
                clear hr
                go_wp2
                go_ret
                exact ⟨ret_int HR.out, rfl⟩
            · obtain rfl : k = 0 := by omega
              have hr : (1 : Int) = ((formR x).2 : Int) := by
                obtain ⟨v, hv⟩ := w_ok (x := x) 0 (by omega) (by omega) hb.out (by rw [← HY.out]; omega) (by omega) (by omega)
                rw [formR_some hv, List.length_drop]; simp; omega
              have HR := Lib.hid hr
              rw [Nat.add_zero] at hc
              clear hr
              go_wp2
              go_ret
              exact ⟨ret_int HR.out, rfl⟩
    · obtain rfl : k = n := by omega
      have hr : (0 : Int) = ((formR x).2 : Int) := by
        rw [formR_none (w_end (fun j hj => hb.out j (by rw [← HL.out]; exact hj)))]; rfl
      have HR := Lib.hid hr
      clear hr
      go_wp2
      go_ret
      exact ⟨ret_int HR.out, rfl⟩

/-- Where there is a byte it lies below block L. -/
def Lo (L : Nat) (A : Option Addr) (n : Nat) : Prop := 0 < n → ∀ a, A = some a → a.block < L
theorem Lo.of {w : World} {A : Option Addr} {n L : Nat} {x : Bs} (h : Rd w A n x) (hL : w.heap.size ≤ L) : Lo L A n := fun hn a ha => by
  obtain ⟨b, o, e, hc⟩ := h.2 hn
  rw [ha] at e
  cases e
  exact Nat.lt_of_lt_of_le (cell_lt (hc 0 (by rw [h.1]; exact hn))) hL
theorem Lo.tail {A : Option Addr} {n k L : Nat} (h : Lo L A n) : Lo L (Option.map (fun a => a.add k) A) (n - k) := fun hn a ha => by
  cases A with
  | none => cases ha
  | some b =>
    simp at ha
    subst ha
    have := h (by omega) b rfl
    unfold Addr.add
    split <;> simpa using this
/-- The reference's reader at block g has x ahead of it, whose bytes lie below block L. -/
def Rdr1 (L : Nat) (w : World) (g : Nat) (x : Bs) : Prop :=
  ∃ A n c, w.heap[g]? = some (.cells #[.slice A n c] 106 (0, 0)) ∧ (Rd w A n x ∧ Lo L A n) ∧ n ≤ c ∧ n ≤ B40
theorem Rdr1.cells {L : Nat} {w : World} {g : Nat} {x : Bs} (h : Rdr1 L w g x) : ∃ A n c, w.cell? ⟨g, 0, none⟩ = some (.slice A n c) ∧ w.frozen? ⟨g, 0, none⟩ = false ∧ Rd w A n x ∧ n ≤ c ∧ n ≤ B40 ∧ w.heap[g]? = some (.cells #[.slice A n c] 106 (0, 0)) ∧ Lo L A n := by
  obtain ⟨A, n, c, hg, hr, hnc, hn⟩ := h
  exact ⟨A, n, c, by simp [World.cell?, hg], by simp [World.frozen?, hg], hr.1, hnc, hn, hg, hr.2⟩
theorem Rdr1.ext {L : Nat} {w w' : World} {g : Nat} {x : Bs} (h : Rdr1 L w g x) (he : Ext w w') : Rdr1 L w' g x := by
  obtain ⟨A, n, c, hg, hr, h1, h2⟩ := h
  exact ⟨A, n, c, ((Ext.below he).block g (Array.getElem?_eq_some_iff.1 hg).1).trans hg, ⟨hr.1.ext he, hr.2⟩, h1, h2⟩
theorem Rdr1.lt {L : Nat} {w : World} {g : Nat} {x : Bs} (h : Rdr1 L w g x) : g < w.heap.size := by
  obtain ⟨A, n, c, hg, _⟩ := h
  exact (Array.getElem?_eq_some_iff.1 hg).1
theorem Rdr1.rd {L : Nat} {w w' : World} {g : Nat} {x y : Bs} {A : Option Addr} {n : Nat} (h : Rdr1 L w g x) (hy : Rd w A n y) (hc : Chg g w w') : Rd w' A n y := by
  obtain ⟨B, m, c, hg, _⟩ := h
  exact hy.chg hg hc
theorem Rdr1.set {L : Nat} {w : World} {g : Nat} {B : Option Addr} {m d : Nat} (hg : w.heap[g]? = some (.cells #[.slice B m d] 106 (0, 0))) {A : Option Addr} {n c : Nat} {r : Bs} (hr : Rd w A n r) (hlo : Lo L A n) (hnc : n ≤ c) (hn : n ≤ B40) :
    Rdr1 L (w.setCell ⟨g, 0, none⟩ (.slice A n c)) g r := by
  refine ⟨A, n, c, ?_, ⟨hr.chg hg ((Chg.rfl_ g w).setCell 0 _), hlo⟩, hnc, hn⟩
  simp [World.setCell, Array.getElem?_modify, hg]

set_option maxRecDepth 100000 in
set_option maxHeartbeats 2000000 in
theorem r1num_ok {L : Nat} (g : Nat) (x r : Bs) (v : Nat) (w : World) (hx : Rdr1 L w g x) (hv : getN x = some (v, r)) :
    Calls Try.prog 77 #[.pointer (some ⟨g, 0, none⟩)] w fun e w' => e = .returned (.tuple #[.int .u64 v, .int .i64 0]) ∧ Rdr1 L w' g r ∧ Chg g w w' := by
  obtain ⟨A, n, c, hc, hf, hr, hnc, hn, hg, hlo⟩ := hx.cells
  have hlen := getF_len hv
  have hfr := formR_some hv
  have hcon := whole_any A n c x w hr hn
  have hl := hr.1
  obtain ⟨hval, hd⟩ := getN_val hv
  have hv64 := getN_lt hv
  obtain ⟨k, hk⟩ : ∃ k, k = x.length - r.length := ⟨_, rfl⟩
  rw [hfr, ← hk] at hcon
  rw [← hk] at hd hval
  have hk1 : 0 < k := by omega
  have hk2 : k ≤ n := by omega
  obtain ⟨b, o, rfl, hcell⟩ := hr.at_ (by omega)
  have HC := Lib.hid hcon
  have HG := Lib.hid hg
  have HD := Lib.hid hd
  have HR := Lib.hid hr
  have HL := Lib.hid hl
  have HV := Lib.hid hval
  have HCL := Lib.hid hcell
  have hn63 : n ≤ 1099511627776 := hn
  have hk0 : ((k : Int) == 0) = false := by simp; omega
  clear hcon hg hd hr hn hfr hlen hk hl hv hx hval hcell
  go_enter Try.func77, Try.ntmps77
  go_wp2_with (go_at_call 93; refine HC.out.mono ?_; rintro e w' ⟨rfl, rfl⟩)
  go_loop [5, 6] (fun t i => ∃ z : Int, ∃ N : Nat, i = .int .i64 z ∧ t = .int .u64 N ∧ -1 ≤ z ∧ z < k ∧ N ≤ v ∧ Hid (N = valF ((x.take k).drop (z + 1).toNat))) (fun _ i => (intOf i + 1).toNat)
  case atStart => exact ⟨(k : Int) - 1, 0, rfl, rfl, by omega, by omega, by omega, Lib.hid (by rw [List.drop_of_length_le (by rw [List.length_take]; omega)]; rfl)⟩
  case round =>
    obtain ⟨z, N, rfl, rfl, hz1, hz2, hNv, hN⟩ := hrel
    by_cases hz : 0 ≤ z
    · obtain ⟨j, rfl⟩ := Int.eq_ofNat_of_zero_le hz
      have hjx : j < x.length := by rw [HL.out]; omega
      have hcj := HCL.out j hjx
      have hstep : valF ((x.take k).drop j) = (x[j]).toNat % 128 + 128 * N := by
        have e : (x.take k).drop j = x[j] :: (x.take k).drop (j + 1) := by
          rw [List.drop_eq_getElem_cons (by rw [List.length_take]; omega), List.getElem_take]
        rw [e, valF_cons, hN.out, show ((j : Int) + 1).toNat = j + 1 from by omega]
      have hle : valF ((x.take k).drop j) ≤ v := by rw [← HV.out]; exact valF_drop_le _ _
      obtain ⟨y, hy⟩ : ∃ y, y = x[j] := ⟨_, rfl⟩
      rw [← hy] at hcj hstep
      have hy2 := byte_mod y
      have hb1 : y.toNat % 128 + 128 * N ≤ v := by omega
      have HST := Lib.hid hstep
      clear hy hstep hle hN hz
      have hjn : (j : Int) < (n : Int) := by omega
      go_wp2
      go_round
      case rel =>
        refine ⟨(j : Int) - 1, y.toNat % 128 + 128 * N, rfl, ?_, by omega, by omega, by omega, Lib.hid ?_⟩
        · congr 1; omega
        · rw [show ((j : Int) - 1 + 1).toNat = j from by omega]; exact HST.out.symm
      case measure => first | (simp [intOf]; done) | (simp [intOf]; omega)
    · obtain rfl : z = -1 := by omega
      have hNe : N = v := by have := hN.out; rw [show ((-1 : Int) + 1).toNat = 0 from rfl, List.drop_zero, HV.out] at this; exact this
      subst hNe
      clear hN hz1 hz2 hNv hz
      go_wp2
      · have e : r = [] := by rw [← HD.out]; exact List.drop_eq_nil_of_le (by rw [HL.out]; omega)
        go_ret2
        refine ⟨rfl, ?_, (Chg.rfl_ g w).setCell 0 _⟩
        rw [e]
        have z : n - k = 0 := by omega
        exact Rdr1.set HG.out (by rw [z]; exact Rd.nil _ _) (fun h0 => absurd h0 (by omega)) (by omega) (by rw [z]; exact Nat.zero_le _)
      · go_ret2
        refine ⟨rfl, ?_, (Chg.rfl_ g w).setCell 0 _⟩
        rw [← HD.out]
        exact Rdr1.set HG.out (HR.out.tail hk2) (fun h0 a ha => by cases ha; exact hlo (by omega) ⟨b, o, none⟩ rfl) (by omega) (by unfold B40; omega)

set_option maxRecDepth 100000 in
set_option maxHeartbeats 1000000 in
theorem r1num_bad {L : Nat} (g : Nat) (x : Bs) (w : World) (hx : Rdr1 L w g x) (hv : getN x = none) :
    Calls Try.prog 77 #[.pointer (some ⟨g, 0, none⟩)] w fun e w' => e = .returned (.tuple #[.int .u64 0, .int .i64 4]) ∧ w = w' := by
  obtain ⟨A, n, c, hc, hf, hr, hnc, hn, hg, hlo⟩ := hx.cells
  have hfr := formR_none hv
  have hcon := whole_any A n c x w hr hn
  rw [hfr] at hcon
  have HC := Lib.hid hcon
  clear hcon hg hr hn hfr hv hx
  go_enter Try.func77, Try.ntmps77
  go_wp2_with (go_at_call 93; refine HC.out.mono ?_; rintro e w' ⟨rfl, rfl⟩)
  go_ret2
  exact ⟨rfl, rfl⟩

theorem r1num_any {L : Nat} (g : Nat) (x : Bs) (w : World) (hx : Rdr1 L w g x) :
    Calls Try.prog 77 #[.pointer (some ⟨g, 0, none⟩)] w fun e w' => ∃ v k r, e = .returned (.tuple #[.int .u64 (v : Nat), .int .i64 k]) ∧ NumOut x v k r ∧ v < 18446744073709551616 ∧ k = (if getN x = none then 4 else 0) ∧ Rdr1 L w' g r ∧ Chg g w w' := by
  cases h : getN x with
  | none =>
    refine (r1num_bad g x w hx h).mono ?_
    rintro e w' ⟨rfl, rfl⟩
    exact ⟨0, 4, x, rfl, .inr ⟨by decide, h, rfl, rfl⟩, by decide, by simp, hx, Chg.rfl_ _ _⟩
  | some p =>
    obtain ⟨v, r⟩ := p
    refine (r1num_ok g x r v w hx h).mono ?_
    rintro e w' ⟨rfl, h1, h2⟩
    exact ⟨v, 0, r, rfl, .inl ⟨rfl, h⟩, getN_lt h, by simp, h1, h2⟩

set_option maxRecDepth 100000 in
theorem r1left_any {L : Nat} (g : Nat) (x : Bs) (w : World) (hx : Rdr1 L w g x) :
    Calls Try.prog 79 #[.pointer (some ⟨g, 0, none⟩)] w fun e w' => e = .returned (.int .i64 x.length) ∧ w = w' := by
  obtain ⟨A, n, c, hc, hf, hr, hnc, hn, hg, hlo⟩ := hx.cells
  have hl := hr.1
  have HL := Lib.hid hl
  clear hr hn hg hl hx
  go_enter Try.func79, Try.ntmps79
  go_wp2
  go_ret
  exact ⟨ret_int (by rw [HL.out]), rfl⟩


open Go.RowKit

theorem Rd.tailM {w : World} {A : Option Addr} {n k : Nat} {x : Bs} (h : Rd w A n x) (hk : k ≤ n) : Rd w (Option.map (fun a => a.add k) A) (n - k) (x.drop k) := by
  rcases Nat.eq_zero_or_pos (n - k) with h0 | h0
  · rw [h0, List.drop_eq_nil_of_le (by rw [h.1]; omega)]; exact Rd.nil _ _
  · obtain ⟨b, o, rfl, _⟩ := h.2 (by omega)
    have e2 : (⟨b, o, none⟩ : Addr).add k = ⟨b, o + k, none⟩ := by unfold Addr.add; split <;> simp_all
    simp only [Option.map_some, e2]
    exact h.tail hk

theorem many_bad {L : Nat} (g most : Nat) (x : Bs) (w : World) (hx : Rdr1 L w g x) (hm : most ≤ B40) (hv : getN x = none) :
    Calls Try.prog 94 #[.pointer (some ⟨g, 0, none⟩), .int .i64 most] w fun e w' => e = .returned (.tuple #[.int .u64 0, .int .i64 4]) ∧ w = w' := by
  have HX := Lib.hid hx
  have HV := Lib.hid hv
  unfold B40 at hm
  clear hx hv
  go_enter Try.func94, Try.ntmps94
  go_wp2_with (go_at_call 77; refine (r1num_bad g x _ HX.out HV.out).mono ?_; rintro e w' ⟨rfl, rfl⟩)
  go_ret2
  exact ⟨rfl, rfl⟩

theorem many_long {L : Nat} (g most : Nat) (x r : Bs) (v : Nat) (w : World) (hx : Rdr1 L w g x) (hm : most ≤ B40) (hv : getN x = some (v, r)) (hl : most < v) :
    Calls Try.prog 94 #[.pointer (some ⟨g, 0, none⟩), .int .i64 most] w fun e w' => e = .returned (.tuple #[.int .u64 0, .int .i64 3]) ∧ Rdr1 L w' g r ∧ Chg g w w' := by
  have HX := Lib.hid hx
  have HV := Lib.hid hv
  have hv64 := getN_lt hv
  unfold B40 at hm
  have hi : (most : Int) < (v : Int) := by omega
  clear hx hv
  go_enter Try.func94, Try.ntmps94
  go_wp2_with (go_at_call 77; refine (r1num_ok g x r v _ HX.out HV.out).mono ?_; rintro e w' ⟨rfl, h1, h2⟩)
  go_ret2
  exact ⟨rfl, h1, h2⟩

theorem many_ok {L : Nat} (g most : Nat) (x r : Bs) (v : Nat) (w : World) (hx : Rdr1 L w g x) (hm : most ≤ B40) (hv : getN x = some (v, r)) (hl : ¬ most < v) :
    Calls Try.prog 94 #[.pointer (some ⟨g, 0, none⟩), .int .i64 most] w fun e w' => e = .returned (.tuple #[.int .u64 v, .int .i64 0]) ∧ Rdr1 L w' g r ∧ Chg g w w' := by
  have HX := Lib.hid hx
  have HV := Lib.hid hv
  have hv64 := getN_lt hv
  unfold B40 at hm
  have hi : ¬ (most : Int) < (v : Int) := by omega
  clear hx hv
  go_enter Try.func94, Try.ntmps94
  go_wp2_with (go_at_call 77; refine (r1num_ok g x r v _ HX.out HV.out).mono ?_; rintro e w' ⟨rfl, h1, h2⟩)
  go_ret2
  exact ⟨rfl, h1, h2⟩

set_option maxRecDepth 100000 in
set_option maxHeartbeats 1000000 in
theorem rb1_bad {L : Nat} (g most : Nat) (x : Bs) (w : World) (hx : Rdr1 L w g x) (hm : most ≤ B40) (hv : getB most x = none) :
    Calls Try.prog 78 #[.pointer (some ⟨g, 0, none⟩), .int .i64 most] w fun e w' => ∃ k : Int, e = .returned (.tuple #[.slice none 0 0, .int .i64 k]) ∧ (k = 3 ∨ k = 4) ∧ Rdr1 L w' g x ∧ Chg g w w' := by
  have HX := Lib.hid hx
  have HM := Lib.hid hm
  obtain ⟨A, n, c, hc, hf, hr, hnc, hn, hg, hlo⟩ := hx.cells
  have HR := Lib.hid hr
  have HG := Lib.hid hg
  have hn63 : n ≤ 1099511627776 := hn
  clear hr hg hx hn
  cases hN : getN x with
  | none =>
    have HN := Lib.hid hN
    clear hN hv hm
    go_enter Try.func78, Try.ntmps78
    go_wp2_with (go_at_call 94; refine (many_bad g most x _ HX.out HM.out HN.out).mono ?_; rintro e w' ⟨rfl, rfl⟩)
    go_ret2
    exact ⟨4, rfl, .inr rfl, Rdr1.set HG.out HR.out hlo hnc (by unfold B40; omega), (Chg.rfl_ g w).setCell 0 _⟩
  | some p =>
    obtain ⟨v, r⟩ := p
    have HN := Lib.hid hN
    by_cases hlong : most < v
    · clear hN hv hm
      go_enter Try.func78, Try.ntmps78
      go_wp2_with fail
      refine (many_long g most x r v _ HX.out HM.out HN.out hlong).mono ?_
      rintro e w1 ⟨rfl, h1, h2⟩
      obtain ⟨A1, n1, c1, hc1, hf1, _, _, _, hg1, _⟩ := h1.cells
      have HG1 := Lib.hid hg1
      clear hg1 h1
      go_wp2
      go_ret2
      exact ⟨3, rfl, .inl rfl, Rdr1.set HG1.out (HR.out.chg HG.out h2) hlo hnc (by unfold B40; omega), h2.setCell 0 _⟩
    · have hshort : r.length < v := by
        rcases Nat.lt_or_ge r.length v with h | h
        · exact h
        · rw [getB_yes hN hlong (by omega)] at hv; cases hv
      clear hN hv
      unfold B40 at hm
      go_enter Try.func78, Try.ntmps78
      go_wp2_with fail
      refine (many_ok g most x r v _ HX.out HM.out HN.out hlong).mono ?_
      rintro e w1 ⟨rfl, h1, h2⟩
      obtain ⟨A1, n1, c1, hc1, hf1, hr1, _, hn1, hg1, _⟩ := h1.cells
      have e1 := hr1.1
      have HG1 := Lib.hid hg1
      have hs : (n1 : Int) < (v : Int) := by omega
      have hn1' : n1 ≤ 1099511627776 := hn1
      have hw : IntKind.u64.wrap (n1 : Int) = (n1 : Int) := by rw [IntKind.wrap_u64]; omega
      clear hg1 h1 hr1 e1 hshort
      go_wp2
      go_ret2
      exact ⟨4, rfl, .inr rfl, Rdr1.set HG1.out (HR.out.chg HG.out h2) hlo hnc (by unfold B40; omega), h2.setCell 0 _⟩

set_option maxRecDepth 100000 in
set_option maxHeartbeats 1000000 in
theorem rb1_ok {L : Nat} (g most : Nat) (x y r : Bs) (w : World) (hx : Rdr1 L w g x) (hm : most ≤ B40) (hv : getB most x = some (y, r)) :
    Calls Try.prog 78 #[.pointer (some ⟨g, 0, none⟩), .int .i64 most] w fun e w' => ∃ v', e = .returned (.tuple #[v', .int .i64 0]) ∧ OwnB w' w.heap.size v' y ∧ Rdr1 L w' g r ∧ Chg g w w' := by
  have HX := Lib.hid hx
  have HM := Lib.hid hm
  obtain ⟨A, n, c, hc, hf, hr, hnc, hn, hg, hlo⟩ := hx.cells
  clear hr hg hx hn
  cases hN : getN x with
  | none => rw [getB_num hN] at hv; cases hv
  | some p =>
    obtain ⟨v, q⟩ := p
    have HN := Lib.hid hN
    have hlong : ¬ most < v := fun h => by rw [getB_long hN h] at hv; cases hv
    have hsh : ¬ q.length < v := fun h => by rw [getB_short hN hlong h] at hv; cases hv
    rw [getB_yes hN hlong hsh] at hv
    simp only [Option.some.injEq, Prod.mk.injEq] at hv
    obtain ⟨rfl, rfl⟩ := hv
    clear hN
    unfold B40 at hm
    go_enter Try.func78, Try.ntmps78
    go_wp2_with fail
    refine (many_ok g most x q v _ HX.out HM.out HN.out hlong).mono ?_
    rintro e w1 ⟨rfl, h1, h2⟩
    obtain ⟨A1, n1, c1, hc1, hf1, hr1, hnc1, hn1, hg1, hlo1⟩ := h1.cells
    have e1 := hr1.1
    have HR1 := Lib.hid hr1
    have HG1 := Lib.hid hg1
    have HE1 := Lib.hid e1
    have hs : ¬ (n1 : Int) < (v : Int) := by omega
    have hs2 : v ≤ n1 := by omega
    have hn1' : n1 ≤ 1099511627776 := hn1
    have hw : IntKind.u64.wrap (n1 : Int) = (n1 : Int) := by rw [IntKind.wrap_u64]; omega
    clear hg1 h1 hr1 e1 hsh
    have htk : Rd w1 A1 v (q.take v) := by
      refine ⟨by rw [List.length_take, HE1.out]; omega, fun h0 => ?_⟩
      obtain ⟨b, o, e, hcl⟩ := HR1.out.2 (by omega)
      refine ⟨b, o, e, fun j hj => ?_⟩
      rw [List.length_take] at hj
      rw [List.getElem_take]
      exact hcl j (by omega)
    have HTK := Lib.hid htk
    have hsz : w.heap.size ≤ w1.heap.size := h2.size
    have H2 := Lib.hid h2
    have hql : ([] : Bs).length + (q.take v).length ≤ B47 := by rw [List.length_take, HE1.out]; simp; unfold B47; omega
    have HQL := Lib.hid hql
    have hd : (decide (n1 < v)) = false := decide_eq_false (by omega)
    clear htk h2 hql
    go_wp2_with (at_builtin; refine wp_app2 rfl _ _ rfl w.heap.size (.slice none 0 0) [] rfl (OwnB.nil _ _) A1 v _ (q.take v) rfl HTK.out HQL.out hsz ?_; intro A5 n5 c5 w2 o2 r2 l2 i2 _ _ g2; have x2 : Ext w1 w2 := Ext.grown (Ext.rfl_ _) g2 (fun k hk => (by cases hk)); obtain ⟨hc2, hf2, hg2⟩ := box1 HG1.out x2; have HG2 := Lib.hid hg2; clear hg2 g2)
    all_goals (rw [List.nil_append] at o2)
    · have e : q.drop v = [] := List.drop_eq_nil_of_le (by rw [HE1.out]; omega)
      go_ret2
      refine ⟨_, rfl, o2.chg HG2.out (by decide) ((Chg.rfl_ g w2).setCell 0 _), ?_, (H2.out.ext x2).setCell 0 _⟩
      rw [e]
      have z : n1 - v = 0 := by omega
      exact Rdr1.set HG2.out (by rw [z]; exact Rd.nil _ _) (fun h0 => absurd h0 (by omega)) (by omega) (by rw [z]; exact Nat.zero_le _)
    · go_ret2
      exact ⟨_, rfl, o2.chg HG2.out (by decide) ((Chg.rfl_ g w2).setCell 0 _), Rdr1.set HG2.out ((HR1.out.ext x2).tailM hs2) hlo1.tail (by omega) (by unfold B40; omega), (H2.out.ext x2).setCell 0 _⟩

theorem rb1_any {L : Nat} (g most : Nat) (x : Bs) (w : World) (hx : Rdr1 L w g x) (hm : most ≤ B40) :
    Calls Try.prog 78 #[.pointer (some ⟨g, 0, none⟩), .int .i64 most] w fun e w' => ∃ A n c k y r, e = .returned (.tuple #[.slice A n c, .int .i64 k]) ∧ BytesOut most x k y r ∧ OwnB w' w.heap.size (.slice A n c) y ∧ Rdr1 L w' g r ∧ Chg g w w' := by
  cases h : getB most x with
  | none =>
    refine (rb1_bad g most x w hx hm h).mono ?_
    rintro e w' ⟨k, rfl, hk, h1, h2⟩
    exact ⟨none, 0, 0, k, [], x, rfl, .inr ⟨by omega, h, rfl, rfl⟩, OwnB.nil _ _, h1, h2⟩
  | some p =>
    obtain ⟨y, r⟩ := p
    refine (rb1_ok g most x y r w hx hm h).mono ?_
    rintro e w' ⟨v', rfl, ho, h1, h2⟩
    obtain ⟨A, n, c, rfl, hl, hr, hi⟩ := ho.formN
    exact ⟨A, n, c, 0, y, r, rfl, .inl ⟨rfl, h⟩, ho, h1, h2⟩


open Go.RowKit

theorem OwnB.chg1 {w w' : World} {base g : Nat} {v : Value} {x y : Bs} (h : OwnB w base v x) {L : Nat} (hr : Rdr1 L w g y) (hc : Chg g w w') : OwnB w' base v x := by
  obtain ⟨A, n, c, hg, _⟩ := hr
  exact h.chg hg (by decide) hc
theorem Rdr1.other {L : Nat} {w : World} {g k : Nat} {x : Bs} {cs : Array Value} {t : TypeId} {fr : Nat × Nat} (h : Rdr1 L w g x) (hg : w.heap[k]? = some (.cells cs t fr)) (hcs : ∀ (i : Nat) (z : Int), cs[i]? ≠ some (Value.int .u8 z)) (hne : g ≠ k) (o : Nat) (u : Value) : Rdr1 L (w.setCell ⟨k, o, none⟩ u) g x := by
  obtain ⟨A, n, c, h1, h2, h3⟩ := h
  exact ⟨A, n, c, (Below.heap_setCell _ _ _ _ hne).trans h1, ⟨h2.1.setBlk hg hcs o u, h2.2⟩, h3⟩

set_option maxRecDepth 100000 in
set_option maxHeartbeats 8000000 in
theorem rread_any (A : Option Addr) (n c : Nat) (x : Bs) (w : World) (hx : Rd w A n x) (hnc : n ≤ c) (hn : n ≤ B40) :
    Calls Try.prog 95 #[.slice A n c] w fun e w' => ∃ v', e = .returned (.tuple #[v', .int .i64 (rdN x)]) ∧ FrE w' w.heap.size v' (rdE x) ∧ Ext w w' := by
  have HX := Lib.hid hx
  have HN := Lib.hid hn
  obtain ⟨b1, b2⟩ := two_new w (.cells #[.slice none 0 0, .int .i64 0, .int .i64 0, .slice none 0 0] 47) (.cells #[.slice A n c] 106)
  have HZ := Lib.hid b1
  obtain ⟨W0, hW0⟩ : ∃ W, W = (w.alloc (.cells #[.slice none 0 0, .int .i64 0, .int .i64 0, .slice none 0 0] 47)).alloc (.cells #[.slice A n c] 106) := ⟨_, rfl⟩
  have hr0 : Rdr1 w.heap.size W0 (w.heap.size + 1) x := ⟨A, n, c, by rw [hW0]; exact b2, ⟨by rw [hW0]; exact hx.ext (by with_reducible (repeat (first | exact Ext.rfl_ _ | assumption | refine Ext.drew ?_ | refine Ext.drewN ?_ _ | refine Ext.alloc ?_ _ | refine Ext.trans ?_ (by assumption)))), Lo.of hx (Nat.le_refl _)⟩, hnc, hn⟩
  have e0 : Ext w W0 := by rw [hW0]; exact (by with_reducible (repeat (first | exact Ext.rfl_ _ | assumption | refine Ext.drew ?_ | refine Ext.drewN ?_ _ | refine Ext.alloc ?_ _ | refine Ext.trans ?_ (by assumption))))
  have hs0 : W0.heap.size = w.heap.size + 2 := by rw [hW0]; simp
  have HW0 := Lib.hid hW0
  rw [← hW0] at HZ
  clear hx hn b1 b2 hW0
  go_enter Try.func95, Try.ntmps95
  go_wp2_with fail
  rw [← HW0.out]
  refine (rb1_any (w.heap.size + 1) 32 x _ hr0 (by decide)).mono ?_
  rintro e w2 ⟨A2, n2, c2, k2, y2, r2, rfl, ho2, hown2, hr2, hc2⟩
  have e2 : Ext w w2 := e0.chg hc2 (by omega)
  have HZ2 := Lib.hid (hc2.blk HZ.out (by omega))
  clear HZ
  go_wp2_with fail
  refine (r1num_any (w.heap.size + 1) r2 _ hr2).mono ?_
  rintro e w3 ⟨v3, k3, r3, rfl, ho3, hv3, -, hr3, hc3⟩
  have e3 : Ext w w3 := e2.chg hc3 (by omega)
  have HZ3 := Lib.hid (hc3.blk HZ2.out (by omega))
  clear HZ2
  go_wp2_with fail
  refine (r1num_any (w.heap.size + 1) r3 _ hr3).mono ?_
  rintro e w4 ⟨v4, k4, r4, rfl, ho4, hv4, -, hr4, hc4⟩
  have e4 : Ext w w4 := e3.chg hc4 (by omega)
  have HZ4 := Lib.hid (hc4.blk HZ3.out (by omega))
  clear HZ3
  have hb2 : k2 ≠ 0 → readE x = none := by
    intro h
    rcases ho2 with ⟨h0, _⟩ | ⟨_, h1, _⟩
    · exact absurd h0 h
    · unfold readE; rw [h1]
  have hb3 : k2 = 0 → k3 ≠ 0 → readE x = none := by
    intro h0 h
    rcases ho2 with ⟨_, h2⟩ | ⟨h2, _⟩
    · rcases ho3 with ⟨h3, _⟩ | ⟨_, h3, _⟩
      · exact absurd h3 h
      · unfold readE; rw [h2]; dsimp only; rw [h3]
    · exact absurd h0 h2
  have hb4 : k2 = 0 → k3 = 0 → k4 ≠ 0 → readE x = none := by
    intro h0 h0' h
    rcases ho2 with ⟨_, h2⟩ | ⟨h2, _⟩
    · rcases ho3 with ⟨_, h3⟩ | ⟨h3, _⟩
      · rcases ho4 with ⟨h4, _⟩ | ⟨_, h4, _⟩
        · exact absurd h4 h
        · unfold readE; rw [h2]; dsimp only; rw [h3]; dsimp only; rw [h4]; (try rfl)
      · exact absurd h0' h3
    · exact absurd h0 h2
  have hgood : k2 = 0 → k3 = 0 → k4 = 0 → readE x = (match (if v4 = 1 then getB 65536 r4 else some ([], r4)) with
        | none => none
        | some (val, r5) => if r5 = [] ∧ MayE ⟨y2, v3, v4, val⟩ then some ⟨y2, v3, v4, val⟩ else none) := by
    intro h0 h0' h0''
    rcases ho2 with ⟨_, h2⟩ | ⟨h2, _⟩
    · rcases ho3 with ⟨_, h3⟩ | ⟨h3, _⟩
      · rcases ho4 with ⟨_, h4⟩ | ⟨h4, _⟩
        · unfold readE; rw [h2]; dsimp only; rw [h3]; dsimp only; rw [h4]; (try rfl)
        · exact absurd h0'' h4
      · exact absurd h0' h3
    · exact absurd h0 h2
  have hbad : k2 = 0 → k3 = 0 → k4 = 0 → (∀ val, ¬ MayE ⟨y2, v3, v4, val⟩) → readE x = none := by
    intro h0 h1 h2 hm
    rw [hgood h0 h1 h2]
    split
    · rfl
    · rw [if_neg (fun h => hm _ h.2)]
  have hown3 := hown2.chg1 hr2 hc3
  have hown4 := (hown3.chg1 hr3 hc4).mono (show w.heap.size + 1 ≤ W0.heap.size from by omega)
  have hy2 : y2.length ≤ 32 := by
    rcases ho2 with ⟨_, h2⟩ | ⟨_, _, h2, _⟩
    · exact getB_le h2
    · rw [h2]; simp
  have HB2 := Lib.hid hb2
  have HB3 := Lib.hid hb3
  have HB4 := Lib.hid hb4
  have HGD := Lib.hid hgood
  have HBD := Lib.hid hbad
  have HOWN := Lib.hid hown4
  clear hb2 hb3 hb4 hgood hbad ho2 ho3 ho4 hr0 hr2 hr3 hc2 hc3 hc4 hown2 hown3 hown4 e0 e2 e3 hs0 HW0
  have hw4 : w.heap.size + 1 < w4.heap.size := hr4.lt
  have hw04 : w.heap.size < w4.heap.size := by omega
  obtain ⟨z0, z1, z2, z3, y0, y1, y2f, y3⟩ := cells4 HZ4.out
  by_cases q2 : k2 = 0
  · by_cases q3 : k3 = 0
    · by_cases q4 : k4 = 0
      · subst q2 q3 q4
        by_cases q5 : (2147483647 : Int) < (v3 : Int)
        · have hb := HBD.out rfl rfl rfl (fun val hm => by have := hm.2.2.2.1; dsimp only at this; omega)
          have HB := Lib.hid hb
          clear hb
          go_wp2
          (refine bodyPost_ret (v := .tuple #[.agg #[.slice none 0 0, .int .i64 0, .int .i64 0, .slice none 0 0], .int .i64 4]) (by simp [results, Try.f95, go_sem, z0, z1, z2, z3]) rfl ?_; exact ⟨_, by rw [(rd_bad HB.out).2], by rw [(rd_bad HB.out).1]; exact FrE.zero _ _, (by with_reducible (repeat (first | exact Ext.rfl_ _ | assumption | refine Ext.drew ?_ | refine Ext.drewN ?_ _ | refine Ext.alloc ?_ _ | refine Ext.setCell ?_ (by first | (simp; done) | (simp; omega)) _ | refine Ext.trans ?_ (by assumption))))⟩)
        · by_cases q6 : (2 : Int) < (v4 : Int)
          · have hb := HBD.out rfl rfl rfl (fun val hm => by have := hm.2.2.2.2.2; dsimp only at this; omega)
            have HB := Lib.hid hb
            clear hb
            go_wp2
            (refine bodyPost_ret (v := .tuple #[.agg #[.slice none 0 0, .int .i64 0, .int .i64 0, .slice none 0 0], .int .i64 4]) (by simp [results, Try.f95, go_sem, z0, z1, z2, z3]) rfl ?_; exact ⟨_, by rw [(rd_bad HB.out).2], by rw [(rd_bad HB.out).1]; exact FrE.zero _ _, (by with_reducible (repeat (first | exact Ext.rfl_ _ | assumption | refine Ext.drew ?_ | refine Ext.drewN ?_ _ | refine Ext.alloc ?_ _ | refine Ext.setCell ?_ (by first | (simp; done) | (simp; omega)) _ | refine Ext.trans ?_ (by assumption))))⟩)
          · have hws : IntKind.i64.wrap (v3 : Int) = (v3 : Int) := by rw [IntKind.wrap_i64]; omega
            have hwk : IntKind.i64.wrap (v4 : Int) = (v4 : Int) := by rw [IntKind.wrap_i64]; omega
            have hX4 := blk1 w4 (.cells #[.slice A2 n2 c2, .int .i64 (v3 : Int), .int .i64 (v4 : Int), .slice none 0 0] 47)
            have hE4 : Ext w4 (w4.alloc (.cells #[.slice A2 n2 c2, .int .i64 (v3 : Int), .int .i64 (v4 : Int), .slice none 0 0] 47)) := Ext.alloc (Ext.rfl_ w4) _
            have HGD2 := Lib.hid (HGD.out rfl rfl rfl)
            by_cases q1 : v4 = 1
            · subst q1
              have hwk1 : IntKind.i64.wrap 1 = 1 := rfl
              have hr4' := Lib.hid (hr4.ext hE4)
              have HHX4 := Lib.hid hX4
              have HHE4 := Lib.hid hE4
              clear hX4 hE4
              go_wp2_with fail
              refine (rb1_any (w.heap.size + 1) 65536 r4 _ hr4'.out (by decide)).mono ?_
              rintro e w5 ⟨A5, n5, c5, k5, y5, r5, rfl, ho5, hown5, hr5, hc5⟩
              have HZ5 := Lib.hid (hc5.blk (HHE4.out.blk HZ4.out) (by omega))
              have HX5 := Lib.hid (hc5.blk HHX4.out (by omega))
              have e5 : Ext w w5 := (Ext.trans e4 HHE4.out).chg hc5 (by omega)
              have HOWN5 := Lib.hid ((HOWN.out.ext HHE4.out).chg1 hr4'.out hc5)
              have hw5 : w4.heap.size < w5.heap.size := by have := hc5.size; simp at this; omega
              have hw05 : w.heap.size < w5.heap.size := by omega
              have hy5 : y5.length ≤ 65536 := by
                rcases ho5 with ⟨_, h2⟩ | ⟨_, _, h2, _⟩
                · exact getB_le h2
                · rw [h2]; simp
              have HO5 := Lib.hid ho5
              have HOW5 := Lib.hid (hown5.mono (show w.heap.size + 1 ≤ _ from by simp; omega))
              clear ho5 hown5 hc5
              by_cases q5 : k5 = 0
              · subst q5
                have hgx : readE x = if r5 = [] ∧ MayE ⟨y2, v3, 1, y5⟩ then some ⟨y2, v3, 1, y5⟩ else none := by
                  have := HGD2.out
                  rw [if_pos trivial] at this
                  rcases HO5.out with ⟨_, h2⟩ | ⟨h2, _⟩
                  · rw [this, h2]; rfl
                  · exact absurd rfl h2
                have HGX := Lib.hid hgx
                have HXF := Lib.hid (set3 HX5.out (.slice A5 n5 c5))
                have HZF := Lib.hid ((Below.heap_setCell _ ⟨w4.heap.size, 3, none⟩ (.slice A5 n5 c5) _ (by simp; omega)).trans HZ5.out)
                have HRD5 := Lib.hid (hr5.other HX5.out four_no (by omega) 3 (.slice A5 n5 c5))
                have HEF := Lib.hid (Ext.setCell e5 (p := ⟨w4.heap.size, 3, none⟩) (by simp; omega) (.slice A5 n5 c5))
                have HOF := Lib.hid (HOWN5.out.chg HX5.out (by decide) ((Chg.rfl_ _ _).setCell 3 (.slice A5 n5 c5)))
                have HPF := Lib.hid (HOW5.out.chg HX5.out (by decide) ((Chg.rfl_ _ _).setCell 3 (.slice A5 n5 c5)))
                have HWF := Lib.hid (show w.heap.size < (w5.setCell ⟨w4.heap.size, 3, none⟩ (.slice A5 n5 c5)).heap.size from by simpa [World.setCell] using hw05)
                have hre : RdE (w5.setCell ⟨w4.heap.size, 3, none⟩ (.slice A5 n5 c5)) (.agg #[.slice A2 n2 c2, .int .i64 (v3 : Int), .int .i64 1, .slice A5 n5 c5]) ⟨y2, v3, 1, y5⟩ := by
                  obtain ⟨B, d, e, hd, hr, _⟩ := HOF.out.form
                  obtain ⟨B', d', e', hd', hr', _⟩ := HPF.out.form
                  cases e
                  cases e'
                  exact ⟨A2, _, c2, A5, _, c5, rfl, hr, hr', hd, by unfold B47; omega, hd', by unfold B47; omega⟩
                have HRE := Lib.hid hre
                obtain ⟨b0, b1, b2, b3, d0, d1, d2, d3⟩ := cells4 HX5.out
                obtain ⟨bb0, bb1, bb2, bb3, dd0, dd1, dd2, dd3⟩ := cells4 HXF.out
                clear hgx hre hr5 HHX4 HHE4 hr4' z0 z1 z2 z3 y0 y1 y2f y3 HZ4 hr4 e5 e4
                by_cases q7 : r5 = []
                · subst q7
                  by_cases q8 : MayE ⟨y2, v3, 1, y5⟩
                  · have hok : readE x = some ⟨y2, v3, 1, y5⟩ := by rw [HGX.out, if_pos ⟨rfl, q8⟩]
                    have hmm : mayE ⟨y2, v3, 1, y5⟩ = true := decide_eq_true q8
                    have HM := Lib.hid hmm
                    have HOK := Lib.hid hok
                    clear hok hmm q8
                    go_wp2_with fail
                    refine (r1left_any _ [] _ HRD5.out).mono ?_
                    rintro e w7 ⟨rfl, rfl⟩
                    go_wp2_with fail
                    refine (rmay_any _ ⟨y2, v3, 1, y5⟩ _ HRE.out).mono ?_
                    rintro e w6 ⟨rfl, hw6⟩
                    rw [HM.out]
                    obtain ⟨b0, b1, b2, b3, d0, d1, d2, d3⟩ := cells4 (hw6.blk HXF.out)
                    obtain ⟨z0, z1, z2, z3, y0, y1, y2f, y3⟩ := cells4 (hw6.blk HZF.out)
                    have e6 : Ext w w6 := HEF.out.trans hw6
                    have hw06 : w.heap.size < w6.heap.size := by have := hw6.size; have := HWF.out; omega
                    have HO6 := Lib.hid (HOF.out.ext hw6)
                    have HP6 := Lib.hid (HPF.out.ext hw6)
                    clear hw6
                    go_wp2
                    refine bodyPost_ret (v := .tuple #[.agg #[.slice A2 n2 c2, .int .i64 (v3 : Int), .int .i64 1, .slice A5 n5 c5], .int .i64 0]) (by simp [results, Try.f95, go_sem, z0, z1, z2, z3, hw06]) rfl ?_
                    refine ⟨_, by rw [(rd_ok HOK.out).2], ?_, (by with_reducible (repeat (first | exact Ext.rfl_ _ | assumption | refine Ext.drew ?_ | refine Ext.drewN ?_ _ | refine Ext.alloc ?_ _ | refine Ext.setCell ?_ (by first | (simp; done) | (simp; omega)) _ | refine Ext.trans ?_ (by assumption))))⟩
                    rw [(rd_ok HOK.out).1]
                    refine FrE.mk_ ?_ ?_ rfl rfl (by dsimp only; unfold B47; omega) (by dsimp only; unfold B47; omega)
                    · exact (((((HO6.out.setLow (by simp) _).setLow (by simp) _).setLow (by simp) _).setLow (by simp) _).mono (Nat.le_succ _))
                    · exact (((((HP6.out.setLow (by simp) _).setLow (by simp) _).setLow (by simp) _).setLow (by simp) _).mono (Nat.le_succ _))
                  · have hb : readE x = none := by rw [HGX.out, if_neg (fun h => q8 h.2)]
                    have HB := Lib.hid hb
                    have hmm : mayE ⟨y2, v3, 1, y5⟩ = false := decide_eq_false q8
                    have HM := Lib.hid hmm
                    clear hb hmm q8
                    go_wp2_with fail
                    refine (r1left_any _ [] _ HRD5.out).mono ?_
                    rintro e w7 ⟨rfl, rfl⟩
                    go_wp2_with fail
                    refine (rmay_any _ ⟨y2, v3, 1, y5⟩ _ HRE.out).mono ?_
                    rintro e w6 ⟨rfl, hw6⟩
                    rw [HM.out]
                    obtain ⟨b0, b1, b2, b3, d0, d1, d2, d3⟩ := cells4 (hw6.blk HXF.out)
                    obtain ⟨z0, z1, z2, z3, y0, y1, y2f, y3⟩ := cells4 (hw6.blk HZF.out)
                    have e6 : Ext w w6 := HEF.out.trans hw6
                    clear hw6
                    go_wp2
                    (refine bodyPost_ret (v := .tuple #[.agg #[.slice none 0 0, .int .i64 0, .int .i64 0, .slice none 0 0], .int .i64 4]) (by simp [results, Try.f95, go_sem, z0, z1, z2, z3]) rfl ?_; exact ⟨_, by rw [(rd_bad HB.out).2], by rw [(rd_bad HB.out).1]; exact FrE.zero _ _, (by with_reducible (repeat (first | exact Ext.rfl_ _ | assumption | refine Ext.drew ?_ | refine Ext.drewN ?_ _ | refine Ext.alloc ?_ _ | refine Ext.setCell ?_ (by first | (simp; done) | (simp; omega)) _ | refine Ext.trans ?_ (by assumption))))⟩)
                · have hb : readE x = none := by rw [HGX.out, if_neg (fun h => q7 h.1)]
                  have HB := Lib.hid hb
                  have hpos : (0 : Int) < (r5.length : Int) := by have := List.length_pos_iff.2 q7; omega
                  have hpos2 : 0 < r5.length := List.length_pos_iff.2 q7
                  clear hb
                  go_wp2_with fail
                  refine (r1left_any _ r5 _ HRD5.out).mono ?_
                  rintro e w7 ⟨rfl, rfl⟩
                  obtain ⟨z0, z1, z2, z3, y0, y1, y2f, y3⟩ := cells4 HZF.out
                  have e6 := HEF.out
                  go_wp2
                  (refine bodyPost_ret (v := .tuple #[.agg #[.slice none 0 0, .int .i64 0, .int .i64 0, .slice none 0 0], .int .i64 4]) (by simp [results, Try.f95, go_sem, z0, z1, z2, z3]) rfl ?_; exact ⟨_, by rw [(rd_bad HB.out).2], by rw [(rd_bad HB.out).1]; exact FrE.zero _ _, (by with_reducible (repeat (first | exact Ext.rfl_ _ | assumption | refine Ext.drew ?_ | refine Ext.drewN ?_ _ | refine Ext.alloc ?_ _ | refine Ext.setCell ?_ (by first | (simp; done) | (simp; omega)) _ | refine Ext.trans ?_ (by assumption))))⟩)
              · have hb : readE x = none := by
                  have := HGD2.out
                  rw [if_pos trivial] at this
                  rcases HO5.out with ⟨h2, _⟩ | ⟨_, h2, _⟩
                  · exact absurd h2 q5
                  · rw [this, h2]
                have HB := Lib.hid hb
                have q5' : (k5 != 0) = true := by simpa using q5
                obtain ⟨zz0, zz1, zz2, zz3, yy0, yy1, yy2, yy3⟩ := cells4 HZ5.out
                clear hb z0 z1 z2 z3 y0 y1 y2f y3 e4
                go_wp2
                (refine bodyPost_ret (v := .tuple #[.agg #[.slice none 0 0, .int .i64 0, .int .i64 0, .slice none 0 0], .int .i64 4]) (by simp [results, Try.f95, go_sem, zz0, zz1, zz2, zz3]) rfl ?_; exact ⟨_, by rw [(rd_bad HB.out).2], by rw [(rd_bad HB.out).1]; exact FrE.zero _ _, (by with_reducible (repeat (first | exact Ext.rfl_ _ | assumption | refine Ext.drew ?_ | refine Ext.drewN ?_ _ | refine Ext.alloc ?_ _ | refine Ext.setCell ?_ (by first | (simp; done) | (simp; omega)) _ | refine Ext.trans ?_ (by assumption))))⟩)
            · have hq1 : ((v4 : Int) == 1) = false := by simp; omega
              obtain ⟨r5, hr5⟩ : ∃ r5, r5 = r4 := ⟨_, rfl⟩
              have hgx : readE x = if r5 = [] ∧ MayE ⟨y2, v3, v4, []⟩ then some ⟨y2, v3, v4, []⟩ else none := by
                have := HGD2.out
                rw [if_neg q1] at this
                rw [hr5]; exact this
              rw [← hr5] at hr4
              have HGX := Lib.hid hgx
              have HXF := Lib.hid hX4
              have HZF := Lib.hid (hE4.blk HZ4.out)
              have HRD5 := Lib.hid (hr4.ext hE4)
              have HEF := Lib.hid (e4.trans hE4)
              have HOF := Lib.hid (HOWN.out.ext hE4)
              have HPF := Lib.hid (OwnB.nil (w4.alloc (.cells #[.slice A2 n2 c2, .int .i64 (v3 : Int), .int .i64 (v4 : Int), .slice none 0 0] 47)) (w.heap.size + 1))
              have HWF := Lib.hid (show w.heap.size < (w4.alloc (.cells #[.slice A2 n2 c2, .int .i64 (v3 : Int), .int .i64 (v4 : Int), .slice none 0 0] 47)).heap.size from by simp; omega)
              have hre : RdE (w4.alloc (.cells #[.slice A2 n2 c2, .int .i64 (v3 : Int), .int .i64 (v4 : Int), .slice none 0 0] 47)) (.agg #[.slice A2 n2 c2, .int .i64 (v3 : Int), .int .i64 (v4 : Int), .slice none 0 0]) ⟨y2, v3, v4, []⟩ := by
                obtain ⟨B, d, e, hd, hr, _⟩ := HOF.out.form
                cases e
                exact ⟨A2, _, c2, none, 0, 0, rfl, hr, Rd.nil _ _, hd, by unfold B47; omega, Nat.le_refl _, Nat.zero_le _⟩
              have HRE := Lib.hid hre
              obtain ⟨bb0, bb1, bb2, bb3, dd0, dd1, dd2, dd3⟩ := cells4 HXF.out
              clear hgx hre hX4 hE4 hr5 z0 z1 z2 z3 y0 y1 y2f y3 hr4
              by_cases q7 : r5 = []
              · subst q7
                by_cases q8 : MayE ⟨y2, v3, v4, []⟩
                · have hok : readE x = some ⟨y2, v3, v4, []⟩ := by rw [HGX.out, if_pos ⟨rfl, q8⟩]
                  have hmm : mayE ⟨y2, v3, v4, []⟩ = true := decide_eq_true q8
                  have HM := Lib.hid hmm
                  have HOK := Lib.hid hok
                  clear hok hmm q8
                  go_wp2_with fail
                  refine (r1left_any _ [] _ HRD5.out).mono ?_
                  rintro e w7 ⟨rfl, rfl⟩
                  go_wp2_with fail
                  refine (rmay_any _ ⟨y2, v3, v4, []⟩ _ HRE.out).mono ?_
                  rintro e w6 ⟨rfl, hw6⟩
                  rw [HM.out]
                  obtain ⟨b0, b1, b2, b3, d0, d1, d2, d3⟩ := cells4 (hw6.blk HXF.out)
                  obtain ⟨z0, z1, z2, z3, y0, y1, y2f, y3⟩ := cells4 (hw6.blk HZF.out)
                  have e6 : Ext w w6 := HEF.out.trans hw6
                  have hw06 : w.heap.size < w6.heap.size := by have := hw6.size; have := HWF.out; omega
                  have HO6 := Lib.hid (HOF.out.ext hw6)
                  have HP6 := Lib.hid (HPF.out.ext hw6)
                  clear hw6
                  go_wp2
                  refine bodyPost_ret (v := .tuple #[.agg #[.slice A2 n2 c2, .int .i64 (v3 : Int), .int .i64 (v4 : Int), .slice none 0 0], .int .i64 0]) (by simp [results, Try.f95, go_sem, z0, z1, z2, z3, hw06]) rfl ?_
                  refine ⟨_, by rw [(rd_ok HOK.out).2], ?_, (by with_reducible (repeat (first | exact Ext.rfl_ _ | assumption | refine Ext.drew ?_ | refine Ext.drewN ?_ _ | refine Ext.alloc ?_ _ | refine Ext.setCell ?_ (by first | (simp; done) | (simp; omega)) _ | refine Ext.trans ?_ (by assumption))))⟩
                  rw [(rd_ok HOK.out).1]
                  refine FrE.mk_ ?_ ?_ rfl rfl (by dsimp only; unfold B47; omega) (by dsimp only; exact Nat.zero_le _)
                  · exact (((((HO6.out.setLow (by simp) _).setLow (by simp) _).setLow (by simp) _).setLow (by simp) _).mono (Nat.le_succ _))
                  · exact (((((HP6.out.setLow (by simp) _).setLow (by simp) _).setLow (by simp) _).setLow (by simp) _).mono (Nat.le_succ _))
                · have hb : readE x = none := by rw [HGX.out, if_neg (fun h => q8 h.2)]
                  have HB := Lib.hid hb
                  have hmm : mayE ⟨y2, v3, v4, []⟩ = false := decide_eq_false q8
                  have HM := Lib.hid hmm
                  clear hb hmm q8
                  go_wp2_with fail
                  refine (r1left_any _ [] _ HRD5.out).mono ?_
                  rintro e w7 ⟨rfl, rfl⟩
                  go_wp2_with fail
                  refine (rmay_any _ ⟨y2, v3, v4, []⟩ _ HRE.out).mono ?_
                  rintro e w6 ⟨rfl, hw6⟩
                  rw [HM.out]
                  obtain ⟨b0, b1, b2, b3, d0, d1, d2, d3⟩ := cells4 (hw6.blk HXF.out)
                  obtain ⟨z0, z1, z2, z3, y0, y1, y2f, y3⟩ := cells4 (hw6.blk HZF.out)
                  have e6 : Ext w w6 := HEF.out.trans hw6
                  clear hw6
                  go_wp2
                  (refine bodyPost_ret (v := .tuple #[.agg #[.slice none 0 0, .int .i64 0, .int .i64 0, .slice none 0 0], .int .i64 4]) (by simp [results, Try.f95, go_sem, z0, z1, z2, z3]) rfl ?_; exact ⟨_, by rw [(rd_bad HB.out).2], by rw [(rd_bad HB.out).1]; exact FrE.zero _ _, (by with_reducible (repeat (first | exact Ext.rfl_ _ | assumption | refine Ext.drew ?_ | refine Ext.drewN ?_ _ | refine Ext.alloc ?_ _ | refine Ext.setCell ?_ (by first | (simp; done) | (simp; omega)) _ | refine Ext.trans ?_ (by assumption))))⟩)
              · have hb : readE x = none := by rw [HGX.out, if_neg (fun h => q7 h.1)]
                have HB := Lib.hid hb
                have hpos : (0 : Int) < (r5.length : Int) := by have := List.length_pos_iff.2 q7; omega
                have hpos2 : 0 < r5.length := List.length_pos_iff.2 q7
                clear hb
                go_wp2_with fail
                refine (r1left_any _ r5 _ HRD5.out).mono ?_
                rintro e w7 ⟨rfl, rfl⟩
                obtain ⟨z0, z1, z2, z3, y0, y1, y2f, y3⟩ := cells4 HZ4.out
                go_wp2
                (refine bodyPost_ret (v := .tuple #[.agg #[.slice none 0 0, .int .i64 0, .int .i64 0, .slice none 0 0], .int .i64 4]) (by simp [results, Try.f95, go_sem, z0, z1, z2, z3, hw04]) rfl ?_; exact ⟨_, by rw [(rd_bad HB.out).2], by rw [(rd_bad HB.out).1]; exact FrE.zero _ _, (by with_reducible (repeat (first | exact Ext.rfl_ _ | assumption | refine Ext.drew ?_ | refine Ext.drewN ?_ _ | refine Ext.alloc ?_ _ | refine Ext.setCell ?_ (by first | (simp; done) | (simp; omega)) _ | refine Ext.trans ?_ (by assumption))))⟩)
      · have hb := HB4.out q2 q3 q4
        have HB := Lib.hid hb
        subst q2 q3
        have q4' : (k4 != 0) = true := by simpa using q4
        clear hb
        go_wp2
        (refine bodyPost_ret (v := .tuple #[.agg #[.slice none 0 0, .int .i64 0, .int .i64 0, .slice none 0 0], .int .i64 4]) (by simp [results, Try.f95, go_sem, z0, z1, z2, z3]) rfl ?_; exact ⟨_, by rw [(rd_bad HB.out).2], by rw [(rd_bad HB.out).1]; exact FrE.zero _ _, (by with_reducible (repeat (first | exact Ext.rfl_ _ | assumption | refine Ext.drew ?_ | refine Ext.drewN ?_ _ | refine Ext.alloc ?_ _ | refine Ext.setCell ?_ (by first | (simp; done) | (simp; omega)) _ | refine Ext.trans ?_ (by assumption))))⟩)
    · have hb := HB3.out q2 q3
      have HB := Lib.hid hb
      subst q2
      have q3' : (k3 != 0) = true := by simpa using q3
      clear hb
      go_wp2
      (refine bodyPost_ret (v := .tuple #[.agg #[.slice none 0 0, .int .i64 0, .int .i64 0, .slice none 0 0], .int .i64 4]) (by simp [results, Try.f95, go_sem, z0, z1, z2, z3]) rfl ?_; exact ⟨_, by rw [(rd_bad HB.out).2], by rw [(rd_bad HB.out).1]; exact FrE.zero _ _, (by with_reducible (repeat (first | exact Ext.rfl_ _ | assumption | refine Ext.drew ?_ | refine Ext.drewN ?_ _ | refine Ext.alloc ?_ _ | refine Ext.setCell ?_ (by first | (simp; done) | (simp; omega)) _ | refine Ext.trans ?_ (by assumption))))⟩)
  · have hb := HB2.out q2
    have HB := Lib.hid hb
    have q2' : (k2 != 0) = true := by simpa using q2
    clear hb
    go_wp2
    (refine bodyPost_ret (v := .tuple #[.agg #[.slice none 0 0, .int .i64 0, .int .i64 0, .slice none 0 0], .int .i64 4]) (by simp [results, Try.f95, go_sem, z0, z1, z2, z3]) rfl ?_; exact ⟨_, by rw [(rd_bad HB.out).2], by rw [(rd_bad HB.out).1]; exact FrE.zero _ _, (by with_reducible (repeat (first | exact Ext.rfl_ _ | assumption | refine Ext.drew ?_ | refine Ext.drewN ?_ _ | refine Ext.alloc ?_ _ | refine Ext.setCell ?_ (by first | (simp; done) | (simp; omega)) _ | refine Ext.trans ?_ (by assumption))))⟩)
end Go.Proofs.Ythdahmicjlplcaa
