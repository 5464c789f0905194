/- Contracts of the reference's reader of layer 1. Conditions: the slice, the reader read. -/
import Derived.Test.YtpohmoakilioiaaRefRM
import Derived.Test.YtpohmoakilioiaaKeyR
namespace Go.Proofs.Ytpohmoakilioiaa
set_option linter.unusedSimpArgs false
set_option linter.unusedVariables false
open Go.RowKit

set_option maxRecDepth 100000 in
set_option maxHeartbeats 4000000 in
theorem whole_any (A : Option Addr) (n c : Nat) (x : Bs) (w : World) (hx : Rd w A n x) (hn : n ≤ B40) :
    Calls Try.prog 82 #[.slice A n c] w fun e w' => e = .returned (.int .i64 (formR x).2) ∧ w = w' := by
  have hl := hx.1
  unfold B40 at hn
  have HX := Lib.hid hx
  have HL := Lib.hid hl
  clear hx hl
  go_enter Try.func82, Try.ntmps82
  go_wp2
  go_loop [3] (fun i => ∃ k : Nat, ∃ hk : k ≤ x.length, i = .int .i64 k ∧ k ≤ n ∧ Hid (∀ j (h : j < k), 128 ≤ (x[j]'(by omega)).toNat)) (fun i => n - (intOf i).toNat)
  case atStart => exact ⟨0, Nat.zero_le _, rfl, Nat.zero_le _, Lib.hid (fun j h => absurd h (by omega))⟩
  case round =>
    obtain ⟨k, hkx, rfl, hk, hb⟩ := hrel
    by_cases c1 : (k : Int) < (n : Int)
    · obtain ⟨b, o, rfl, hcell⟩ := HX.out.at_ (by omega)
      have hk2 : k < x.length := by rw [HL.out]; omega
      have hc := hcell k hk2
      have HCELL := Lib.hid hcell
      obtain ⟨y, hy⟩ : ∃ y, y = x[k] := ⟨_, rfl⟩
      rw [← hy] at hc
      have HY := Lib.hid hy
      have hy2 := byte_mod y
      clear hcell hy
      by_cases c2 : (127 : Int) < (y.toNat : Int)
      · go_wp2
        go_round
        case rel =>
          refine ⟨k + 1, hk2, by go_num, by omega, Lib.hid (fun j hj => ?_)⟩
          by_cases hjk : j < k
          · exact hb.out j hjk
          · obtain rfl : j = k := by omega
            rw [← HY.out]; omega
        case measure => simp [intOf]; omega
      · have c2' : decide ((127 : Int) < (y.toNat : Int)) = false := decide_eq_false c2
        have hkn : ((k : Int) == (n : Int)) = false := by simp; omega
        by_cases c3 : (9 : Int) < (k : Int)
        · have hr : (0 : Int) = ((formR x).2 : Int) := by rw [formR_none (w_long k (by omega) (by omega) hb.out)]; rfl
          have HR := Lib.hid hr
          clear hr
          go_wp2
          go_ret
          exact ⟨ret_int HR.out, rfl⟩
        · have c3' : decide ((9 : Int) < (k : Int)) = false := decide_eq_false c3
          by_cases c4 : k = 9
          · subst c4
            by_cases c5 : (1 : Int) < (y.toNat : Int)
            · have hr : (0 : Int) = ((formR x).2 : Int) := by rw [formR_none (w_big (by omega) hb.out (by rw [← HY.out]; omega))]; rfl
              have HR := Lib.hid hr
              clear hr
              go_wp2
              go_ret
              exact ⟨ret_int HR.out, rfl⟩
            · have c5' : decide ((1 : Int) < (y.toNat : Int)) = false := decide_eq_false c5
              by_cases c6 : y.toNat = 0
              · have hr : (0 : Int) = ((formR x).2 : Int) := by rw [formR_none (w_zero 9 (by omega) (by omega) (by omega) hb.out (by rw [← HY.out]; exact c6))]; rfl
                have HR := Lib.hid hr
                have c6' : ((y.toNat : Int) == 0) = true := by simp [c6]
                clear hr c6
                go_wp2
                go_ret
                exact ⟨ret_int HR.out, rfl⟩
              · have hr : (10 : Int) = ((formR x).2 : Int) := by
                  obtain ⟨v, hv⟩ := w_ok (x := x) 9 (by omega) (by omega) hb.out (by rw [← HY.out]; omega) (by rw [← HY.out]; omega) (by rw [← HY.out]; omega)
                  rw [formR_some hv, List.length_drop]; simp; omega
                have HR := Lib.hid hr
                have c6' : ((y.toNat : Int) == 0) = false := by simp; omega
                clear hr
                go_wp2
                go_ret
                exact ⟨ret_int HR.out, rfl⟩
          · have c4' : ((k : Int) == 9) = false := by simp; omega
            by_cases c7 : (0 : Int) < (k : Int)
            · by_cases c6 : y.toNat = 0
              · have hr : (0 : Int) = ((formR x).2 : Int) := by rw [formR_none (w_zero k (by omega) (by omega) (by omega) hb.out (by rw [← HY.out]; exact c6))]; rfl
                have HR := Lib.hid hr
                have c6' : ((y.toNat : Int) == 0) = true := by simp [c6]
                clear hr c6
                go_wp2
                go_ret
                exact ⟨ret_int HR.out, rfl⟩
              · have hr : (k : Int) + 1 = ((formR x).2 : Int) := by
                  obtain ⟨v, hv⟩ := w_ok (x := x) k (by omega) (by omega) hb.out (by rw [← HY.out]; omega) (by omega) (by rw [← HY.out]; omega)
                  rw [formR_some hv, List.length_drop]; simp; omega
                have HR := Lib.hid hr
                have c6' : ((y.toNat : Int) == 0) = false := by simp; omega
                clear hr
                go_wp2
                go_ret
                exact ⟨ret_int HR.out, rfl⟩
            · obtain rfl : k = 0 := by omega
              have hr : (1 : Int) = ((formR x).2 : Int) := by
                obtain ⟨v, hv⟩ := w_ok (x := x) 0 (by omega) (by omega) hb.out (by rw [← HY.out]; omega) (by omega) (by omega)
                rw [formR_some hv, List.length_drop]; simp; omega
              have HR := Lib.hid hr
              rw [Nat.add_zero] at hc
              clear hr
              go_wp2
              go_ret
              exact ⟨ret_int HR.out, rfl⟩
    · obtain rfl : k = n := by omega
      have hr : (0 : Int) = ((formR x).2 : Int) := by
        rw [formR_none (w_end (fun j hj => hb.out j (by rw [← HL.out]; exact hj)))]; rfl
      have HR := Lib.hid hr
      clear hr
      go_wp2
      go_ret
      exact ⟨ret_int HR.out, rfl⟩

/-- Where there is a byte it lies below block L. -/
def Lo (L : Nat) (A : Option Addr) (n : Nat) : Prop := 0 < n → ∀ a, A = some a → a.block < L
theorem Lo.of {w : World} {A : Option Addr} {n L : Nat} {x : Bs} (h : Rd w A n x) (hL : w.heap.size ≤ L) : Lo L A n := fun hn a ha => by
  obtain ⟨b, o, e, hc⟩ := h.2 hn
  rw [ha] at e
  cases e
  exact Nat.lt_of_lt_of_le (cell_lt (hc 0 (by rw [h.1]; exact hn))) hL
theorem Lo.tail {A : Option Addr} {n k L : Nat} (h : Lo L A n) : Lo L (Option.map (fun a => a.add k) A) (n - k) := fun hn a ha => by
  cases A with
  | none => cases ha
  | some b =>
    simp at ha
    subst ha
    have := h (by omega) b rfl
    unfold Addr.add
    split <;> simpa using this
/-- The reference's reader at block g has x ahead of it, whose bytes lie below block L. -/
def Rdr1 (L : Nat) (w : World) (g : Nat) (x : Bs) : Prop :=
  ∃ A n c, w.heap[g]? = some (.cells #[.slice A n c] 78 (0, 0)) ∧ (Rd w A n x ∧ Lo L A n) ∧ n ≤ c ∧ n ≤ B40
theorem Rdr1.cells {L : Nat} {w : World} {g : Nat} {x : Bs} (h : Rdr1 L w g x) : ∃ A n c, w.cell? ⟨g, 0, none⟩ = some (.slice A n c) ∧ w.frozen? ⟨g, 0, none⟩ = false ∧ Rd w A n x ∧ n ≤ c ∧ n ≤ B40 ∧ w.heap[g]? = some (.cells #[.slice A n c] 78 (0, 0)) ∧ Lo L A n := by
  obtain ⟨A, n, c, hg, hr, hnc, hn⟩ := h
  exact ⟨A, n, c, by simp [World.cell?, hg], by simp [World.frozen?, hg], hr.1, hnc, hn, hg, hr.2⟩
theorem Rdr1.ext {L : Nat} {w w' : World} {g : Nat} {x : Bs} (h : Rdr1 L w g x) (he : Ext w w') : Rdr1 L w' g x := by
  obtain ⟨A, n, c, hg, hr, h1, h2⟩ := h
  exact ⟨A, n, c, ((Ext.below he).block g (Array.getElem?_eq_some_iff.1 hg).1).trans hg, ⟨hr.1.ext he, hr.2⟩, h1, h2⟩
theorem Rdr1.lt {L : Nat} {w : World} {g : Nat} {x : Bs} (h : Rdr1 L w g x) : g < w.heap.size := by
  obtain ⟨A, n, c, hg, _⟩ := h
  exact (Array.getElem?_eq_some_iff.1 hg).1
theorem Rdr1.rd {L : Nat} {w w' : World} {g : Nat} {x y : Bs} {A : Option Addr} {n : Nat} (h : Rdr1 L w g x) (hy : Rd w A n y) (hc : Chg g w w') : Rd w' A n y := by
  obtain ⟨B, m, c, hg, _⟩ := h
  exact hy.chg hg hc
theorem Rdr1.set {L : Nat} {w : World} {g : Nat} {B : Option Addr} {m d : Nat} (hg : w.heap[g]? = some (.cells #[.slice B m d] 78 (0, 0))) {A : Option Addr} {n c : Nat} {r : Bs} (hr : Rd w A n r) (hlo : Lo L A n) (hnc : n ≤ c) (hn : n ≤ B40) :
    Rdr1 L (w.setCell ⟨g, 0, none⟩ (.slice A n c)) g r := by
  refine ⟨A, n, c, ?_, ⟨hr.chg hg ((Chg.rfl_ g w).setCell 0 _), hlo⟩, hnc, hn⟩
  simp [World.setCell, Array.getElem?_modify, hg]

set_option maxRecDepth 100000 in
set_option maxHeartbeats 2000000 in
theorem r1num_ok {L : Nat} (g : Nat) (x r : Bs) (v : Nat) (w : World) (hx : Rdr1 L w g x) (hv : getN x = some (v, r)) :
    Calls Try.prog 59 #[.pointer (some ⟨g, 0, none⟩)] w fun e w' => e = .returned (.tuple #[.int .u64 v, .int .i64 0]) ∧ Rdr1 L w' g r ∧ Chg g w w' := by
  obtain ⟨A, n, c, hc, hf, hr, hnc, hn, hg, hlo⟩ := hx.cells
  have hlen := getF_len hv
  have hfr := formR_some hv
  have hcon := whole_any A n c x w hr hn
  have hl := hr.1
  obtain ⟨hval, hd⟩ := getN_val hv
  have hv64 := getN_lt hv
  obtain ⟨k, hk⟩ : ∃ k, k = x.length - r.length := ⟨_, rfl⟩
  rw [hfr, ← hk] at hcon
  rw [← hk] at hd hval
  have hk1 : 0 < k := by omega
  have hk2 : k ≤ n := by omega
  obtain ⟨b, o, rfl, hcell⟩ := hr.at_ (by omega)
  have HC := Lib.hid hcon
  have HG := Lib.hid hg
  have HD := Lib.hid hd
  have HR := Lib.hid hr
  have HL := Lib.hid hl
  have HV := Lib.hid hval
  have HCL := Lib.hid hcell
  have hn63 : n ≤ 1099511627776 := hn
  have hk0 : ((k : Int) == 0) = false := by simp; omega
  clear hcon hg hd hr hn hfr hlen hk hl hv hx hval hcell
  go_enter Try.func59, Try.ntmps59
  go_wp2_with (go_at_call 82; refine HC.out.mono ?_; rintro e w' ⟨rfl, rfl⟩)
  go_loop [5, 6] (fun t i => ∃ z : Int, ∃ N : Nat, i = .int .i64 z ∧ t = .int .u64 N ∧ -1 ≤ z ∧ z < k ∧ N ≤ v ∧ Hid (N = valF ((x.take k).drop (z + 1).toNat))) (fun _ i => (intOf i + 1).toNat)
  case atStart => exact ⟨(k : Int) - 1, 0, rfl, rfl, by omega, by omega, by omega, Lib.hid (by rw [List.drop_of_length_le (by rw [List.length_take]; omega)]; rfl)⟩
  case round =>
    obtain ⟨z, N, rfl, rfl, hz1, hz2, hNv, hN⟩ := hrel
    by_cases hz : 0 ≤ z
    · obtain ⟨j, rfl⟩ := Int.eq_ofNat_of_zero_le hz
      have hjx : j < x.length := by rw [HL.out]; omega
      have hcj := HCL.out j hjx
      have hstep : valF ((x.take k).drop j) = (x[j]).toNat % 128 + 128 * N := by
        have e : (x.take k).drop j = x[j] :: (x.take k).drop (j + 1) := by
          rw [List.drop_eq_getElem_cons (by rw [List.length_take]; omega), List.getElem_take]
        rw [e, valF_cons, hN.out, show ((j : Int) + 1).toNat = j + 1 from by omega]
      have hle : valF ((x.take k).drop j) ≤ v := by rw [← HV.out]; exact valF_drop_le _ _
      obtain ⟨y, hy⟩ : ∃ y, y = x[j] := ⟨_, rfl⟩
      rw [← hy] at hcj hstep
      have hy2 := byte_mod y
      have hb1 : y.toNat % 128 + 128 * N ≤ v := by omega
      have HST := Lib.hid hstep
      clear hy hstep hle hN hz
      have hjn : (j : Int) < (n : Int) := by omega
      go_wp2
      go_round
      case rel =>
        refine ⟨(j : Int) - 1, y.toNat % 128 + 128 * N, rfl, ?_, by omega, by omega, by omega, Lib.hid ?_⟩
        · congr 1; omega
        · rw [show ((j : Int) - 1 + 1).toNat = j from by omega]; exact HST.out.symm
      case measure => first | (simp [intOf]; done) | (simp [intOf]; omega)
    · obtain rfl : z = -1 := by omega
      have hNe : N = v := by have := hN.out; rw [show ((-1 : Int) + 1).toNat = 0 from rfl, List.drop_zero, HV.out] at this; exact this
      subst hNe
      clear hN hz1 hz2 hNv hz
      go_wp2
      · have e : r = [] := by rw [← HD.out]; exact List.drop_eq_nil_of_le (by rw [HL.out]; omega)
        go_ret2
        refine ⟨rfl, ?_, (Chg.rfl_ g w).setCell 0 _⟩
        rw [e]
        have z : n - k = 0 := by omega
        exact Rdr1.set HG.out (by rw [z]; exact Rd.nil _ _) (fun h0 => absurd h0 (by omega)) (by omega) (by rw [z]; exact Nat.zero_le _)
      · go_ret2
        refine ⟨rfl, ?_, (Chg.rfl_ g w).setCell 0 _⟩
        rw [← HD.out]
        exact Rdr1.set HG.out (HR.out.tail hk2) (fun h0 a ha => by cases ha; exact hlo (by omega) ⟨b, o, none⟩ rfl) (by omega) (by unfold B40; omega)

set_option maxRecDepth 100000 in
set_option maxHeartbeats 1000000 in
theorem r1num_bad {L : Nat} (g : Nat) (x : Bs) (w : World) (hx : Rdr1 L w g x) (hv : getN x = none) :
    Calls Try.prog 59 #[.pointer (some ⟨g, 0, none⟩)] w fun e w' => e = .returned (.tuple #[.int .u64 0, .int .i64 4]) ∧ w = w' := by
  obtain ⟨A, n, c, hc, hf, hr, hnc, hn, hg, hlo⟩ := hx.cells
  have hfr := formR_none hv
  have hcon := whole_any A n c x w hr hn
  rw [hfr] at hcon
  have HC := Lib.hid hcon
  clear hcon hg hr hn hfr hv hx
  go_enter Try.func59, Try.ntmps59
  go_wp2_with (go_at_call 82; refine HC.out.mono ?_; rintro e w' ⟨rfl, rfl⟩)
  go_ret2
  exact ⟨rfl, rfl⟩

theorem r1num_any {L : Nat} (g : Nat) (x : Bs) (w : World) (hx : Rdr1 L w g x) :
    Calls Try.prog 59 #[.pointer (some ⟨g, 0, none⟩)] w fun e w' => ∃ v k r, e = .returned (.tuple #[.int .u64 (v : Nat), .int .i64 k]) ∧ NumOut x v k r ∧ v < 18446744073709551616 ∧ k = (if getN x = none then 4 else 0) ∧ Rdr1 L w' g r ∧ Chg g w w' := by
  cases h : getN x with
  | none =>
    refine (r1num_bad g x w hx h).mono ?_
    rintro e w' ⟨rfl, rfl⟩
    exact ⟨0, 4, x, rfl, .inr ⟨by decide, h, rfl, rfl⟩, by decide, by simp, hx, Chg.rfl_ _ _⟩
  | some p =>
    obtain ⟨v, r⟩ := p
    refine (r1num_ok g x r v w hx h).mono ?_
    rintro e w' ⟨rfl, h1, h2⟩
    exact ⟨v, 0, r, rfl, .inl ⟨rfl, h⟩, getN_lt h, by simp, h1, h2⟩

set_option maxRecDepth 100000 in
theorem r1left_any {L : Nat} (g : Nat) (x : Bs) (w : World) (hx : Rdr1 L w g x) :
    Calls Try.prog 60 #[.pointer (some ⟨g, 0, none⟩)] w fun e w' => e = .returned (.int .i64 x.length) ∧ w = w' := by
  obtain ⟨A, n, c, hc, hf, hr, hnc, hn, hg, hlo⟩ := hx.cells
  have hl := hr.1
  have HL := Lib.hid hl
  clear hr hn hg hl hx
  go_enter Try.func60, Try.ntmps60
  go_wp2
  go_ret
  exact ⟨ret_int (by rw [HL.out]), rfl⟩

end Go.Proofs.Ytpohmoakilioiaa
