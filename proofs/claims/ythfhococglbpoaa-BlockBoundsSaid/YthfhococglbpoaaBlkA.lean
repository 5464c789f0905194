/- Contracts of the small functions of blocks: Shared, word, unword, number, ask, Left. Conditions: the slices read as bytes. -/
/- Contracts of slices.Grow of nil and slices.Concat. Conditions: the pieces read as bytes, all together within the reach. -/
import Derived.Test.YthfhococglbpoaaBlkM
import Derived.Test.YthfhococglbpoaaRefA
import Derived.Test.YthfhococglbpoaaRefB
import Derived.Test.YthfhococglbpoaaReadC
import Derived.BigQuiet
import Derived.Lib.EndianBits
import Derived.Test.YthfhococglbpoaaWireJ
import Derived.Lib.AppendZerosOnto
namespace Go.Proofs.Ythfhococglbpoaa
set_option linter.unusedSimpArgs false
set_option linter.unusedVariables false
open Go.RowKit

theorem own4 (n : Nat) {w : World} : OwnB (w.alloc (.cells #[.int .u8 ((n : Int) / 16777216 % 256), .int .u8 ((n : Int) / 65536 % 256), .int .u8 ((n : Int) / 256 % 256), .int .u8 ((n : Int) % 256)] 5)) w.heap.size (.slice (some ⟨w.heap.size, 0, none⟩) 4 4) (w4 n) := by
  have h := World.ownsRow_lit (e := 5) (size := 1) (base := w.heap.size) w #[.int .u8 ((n : Int) / 16777216 % 256), .int .u8 ((n : Int) / 65536 % 256), .int .u8 ((n : Int) / 256 % 256), .int .u8 ((n : Int) % 256)] 4 (Nat.le_refl _) (by decide) rfl
  unfold OwnB byV w4
  have e1 : ((UInt8.ofNat (n / 16777216)).toNat : Int) = (n : Int) / 16777216 % 256 := by rw [UInt8.toNat_ofNat']; omega
  have e2 : ((UInt8.ofNat (n / 65536)).toNat : Int) = (n : Int) / 65536 % 256 := by rw [UInt8.toNat_ofNat']; omega
  have e3 : ((UInt8.ofNat (n / 256)).toNat : Int) = (n : Int) / 256 % 256 := by rw [UInt8.toNat_ofNat']; omega
  have e4 : ((UInt8.ofNat n).toNat : Int) = (n : Int) % 256 := by rw [UInt8.toNat_ofNat']; omega
  simp only [List.map_cons, List.map_nil, e1, e2, e3, e4]
  exact h
theorem u8lt (p : UInt8) : p.toNat < 256 := UInt8.toNat_lt p
theorem un4_bits (p0 p1 p2 p3 : UInt8) : wrap64 (bits BinOp.or IntKind.u32 (bits BinOp.or IntKind.u32 (bits BinOp.or IntKind.u32 (p0.toNat % 4294967296 * 16777216 % 4294967296) (p1.toNat % 4294967296 * 65536 % 4294967296)) (p2.toNat % 4294967296 * 256 % 4294967296)) (p3.toNat % 4294967296)) = (un4 [p0, p1, p2, p3] : Nat) := by
  have h0 := u8lt p0
  have h1 := u8lt p1
  have h2 := u8lt p2
  have h3 := u8lt p3
  obtain ⟨a, ha⟩ : ∃ a, a = p0.toNat := ⟨_, rfl⟩
  obtain ⟨b, hb⟩ : ∃ a, a = p1.toNat := ⟨_, rfl⟩
  obtain ⟨c, hc⟩ : ∃ a, a = p2.toNat := ⟨_, rfl⟩
  obtain ⟨d, hd⟩ : ∃ a, a = p3.toNat := ⟨_, rfl⟩
  unfold un4
  simp only [← ha, ← hb, ← hc, ← hd] at *
  rw [bits_join .u32 32 (by decide) wraps_u32 24 ((a : Int) % 4294967296 * 16777216 % 4294967296) ((b : Int) % 4294967296 * 65536 % 4294967296) (by omega) (by omega) (by omega) (by omega) (by omega) (by omega)]
  rw [bits_join .u32 32 (by decide) wraps_u32 16 ((a : Int) % 4294967296 * 16777216 % 4294967296 + (b : Int) % 4294967296 * 65536 % 4294967296) ((c : Int) % 4294967296 * 256 % 4294967296) (by omega) (by omega) (by omega) (by omega) (by omega) (by omega)]
  rw [bits_join .u32 32 (by decide) wraps_u32 8 ((a : Int) % 4294967296 * 16777216 % 4294967296 + (b : Int) % 4294967296 * 65536 % 4294967296 + (c : Int) % 4294967296 * 256 % 4294967296) ((d : Int) % 4294967296) (by omega) (by omega) (by omega) (by omega) (by omega) (by omega)]
  unfold wrap64
  omega
theorem w64 {n : Int} (h0 : 0 ≤ n) (h1 : n < 9223372036854775808) : wrap64 n = n := by unfold wrap64; omega
theorem un4_sum (p0 p1 p2 p3 : UInt8) : wrap64 (wrap64 (wrap64 (wrap64 (wrap64 p0.toNat * 16777216) + wrap64 (wrap64 p1.toNat * 65536)) + wrap64 (wrap64 p2.toNat * 256)) + wrap64 p3.toNat) = (un4 [p0, p1, p2, p3] : Nat) := by
  have h0 := u8lt p0
  have h1 := u8lt p1
  have h2 := u8lt p2
  have h3 := u8lt p3
  obtain ⟨a, ha⟩ : ∃ a, a = p0.toNat := ⟨_, rfl⟩
  obtain ⟨b, hb⟩ : ∃ a, a = p1.toNat := ⟨_, rfl⟩
  obtain ⟨c, hc⟩ : ∃ a, a = p2.toNat := ⟨_, rfl⟩
  obtain ⟨d, hd⟩ : ∃ a, a = p3.toNat := ⟨_, rfl⟩
  unfold un4
  simp only [← ha, ← hb, ← hc, ← hd] at *
  rw [w64 (n := (a : Int)) (by omega) (by omega), w64 (n := (b : Int)) (by omega) (by omega), w64 (n := (c : Int)) (by omega) (by omega), w64 (n := (d : Int)) (by omega) (by omega)]
  rw [w64 (n := (a : Int) * 16777216) (by omega) (by omega), w64 (n := (b : Int) * 65536) (by omega) (by omega), w64 (n := (c : Int) * 256) (by omega) (by omega)]
  rw [w64 (n := (a : Int) * 16777216 + (b : Int) * 65536) (by omega) (by omega)]
  rw [w64 (n := (a : Int) * 16777216 + (b : Int) * 65536 + (c : Int) * 256) (by omega) (by omega)]
  rw [w64 (by omega) (by omega)]
  omega
theorem ret_i {a b : Int} (h : a = b) : Ending.returned (.int .i64 a) = Ending.returned (.int .i64 b) := by rw [h]

set_option maxRecDepth 100000 in
set_option maxHeartbeats 2000000 in
theorem rword_any (n : Nat) (w : World) (hn : n ≤ B40) :
    Calls Try.prog 54 #[.int .i64 n] w fun e w' => ∃ v', e = .returned v' ∧ OwnB w' w.heap.size v' (w4 n) ∧ Ext w w' := by
  unfold B40 at hn
  go_enter Try.func54, Try.ntmps54
  go_wp2
  go_ret
  exact ⟨_, rfl, own4 n, (by with_reducible (repeat (first | exact Ext.rfl_ _ | assumption | refine Ext.drew ?_ | refine Ext.drewN ?_ _ | refine Ext.alloc ?_ _ | refine Ext.trans ?_ (by assumption))))⟩
set_option maxRecDepth 100000 in
set_option maxHeartbeats 2000000 in
theorem word_any (n : Nat) (w : World) (hn : n ≤ B40) :
    Calls Try.prog 47 #[.int .i64 n] w fun e w' => ∃ v', e = .returned v' ∧ OwnB w' w.heap.size v' (w4 n) ∧ Ext w w' := by
  unfold B40 at hn
  go_enter Try.func47, Try.ntmps47
  go_wp2
  go_ret
  exact ⟨_, rfl, own4 n, (by with_reducible (repeat (first | exact Ext.rfl_ _ | assumption | refine Ext.drew ?_ | refine Ext.drewN ?_ _ | refine Ext.alloc ?_ _ | refine Ext.trans ?_ (by assumption))))⟩

set_option maxRecDepth 100000 in
set_option maxHeartbeats 2000000 in
theorem unword_any (b o c : Nat) (x : Bs) (w : World) (hx : Rd w (some ⟨b, o, none⟩) 4 x) (hc : 4 ≤ c) :
    Calls Try.prog 57 #[.slice (some ⟨b, o, none⟩) 4 c] w fun e w' => e = .returned (.int .i64 (un4 x)) ∧ Ext w w' := by
  obtain ⟨b', o', e, hcell⟩ := hx.at_ (by omega)
  cases e
  match x, hx.1 with
  | [p0, p1, p2, p3], _ =>
  have h0 := hcell 0 (by simp)
  have h1 := hcell 1 (by simp)
  have h2 := hcell 2 (by simp)
  have h3 := hcell 3 (by simp)
  simp at h0 h1 h2 h3
  clear hcell hx
  go_enter Try.func57, Try.ntmps57
  go_wp2
  go_quiet (fail)
  go_wp2
  go_ret
  exact ⟨ret_i (un4_bits p0 p1 p2 p3), (by with_reducible (repeat (first | exact Ext.rfl_ _ | assumption | refine Ext.drew ?_ | refine Ext.drewN ?_ _ | refine Ext.alloc ?_ _ | refine Ext.trans ?_ (by assumption))))⟩

set_option maxRecDepth 100000 in
set_option maxHeartbeats 2000000 in
theorem rnumber_any (b o c : Nat) (x : Bs) (w : World) (hx : Rd w (some ⟨b, o, none⟩) 4 x) (hc : 4 ≤ c) :
    Calls Try.prog 37 #[.slice (some ⟨b, o, none⟩) 4 c] w fun e w' => e = .returned (.int .i64 (un4 x)) ∧ Ext w w' := by
  obtain ⟨b', o', e, hcell⟩ := hx.at_ (by omega)
  cases e
  match x, hx.1 with
  | [p0, p1, p2, p3], _ =>
  have h0 := hcell 0 (by simp)
  have h1 := hcell 1 (by simp)
  have h2 := hcell 2 (by simp)
  have h3 := hcell 3 (by simp)
  simp at h0 h1 h2 h3
  clear hcell hx
  go_enter Try.func37, Try.ntmps37
  go_wp2
  go_quiet (fail)
  go_wp2
  go_ret
  exact ⟨ret_i (un4_sum p0 p1 p2 p3), (by with_reducible (repeat (first | exact Ext.rfl_ _ | assumption | refine Ext.drew ?_ | refine Ext.drewN ?_ _ | refine Ext.alloc ?_ _ | refine Ext.trans ?_ (by assumption))))⟩

set_option maxRecDepth 100000 in
theorem ask_yes (w : World) : Calls Try.prog 56 #[.bool true] w fun e w' => e = .returned (.tuple #[]) ∧ w = w' := by
  go_enter Try.func56, Try.ntmps56
  go_wp2
  go_end0
  exact ⟨rfl, rfl⟩
set_option maxRecDepth 100000 in
theorem ask_no (w : World) : Calls Try.prog 56 #[.bool false] w fun e w' => e = .panicked [{ v := .iface 87 (.agg #[]), recovered := false }] ∧ w = w' := by
  go_enter Try.func56, Try.ntmps56
  go_wp2
  exact ⟨rfl, rfl, rfl⟩

set_option maxRecDepth 100000 in
theorem left_any (g : Nat) (x : Bs) (w : World) (hx : Rdr w g x) :
    Calls Try.prog 59 #[.pointer (some ⟨g, 0, none⟩)] w fun e w' => e = .returned (.int .i64 x.length) ∧ w = w' := by
  obtain ⟨b, o, n, c, hc, hf, hr, hnc, hn, hg⟩ := hx.cells
  have HL := Lib.hid hr.1
  have HX := Lib.hid hx
  clear hr hn hg hf hx
  go_enter Try.func59, Try.ntmps59
  go_wp2_with (go_at_call 76; refine (closed_any g x _ HX.out).mono ?_; rintro e w' ⟨rfl, rfl⟩)
  go_ret
  exact ⟨ret_i (by rw [HL.out]), rfl⟩

theorem shr_step {x y : Bs} {k : Nat} (hx : k ≤ x.length) (hy : k ≤ y.length) (h : x.take k = y.take k) (hs : ¬ (k < x.length ∧ k < y.length) ∨ ∃ (h1 : k < x.length) (h2 : k < y.length), x[k] ≠ y[k]) : shr x y = k := by
  refine shr_at hx hy (fun i h1 h2 h3 => ?_) (fun h1 h2 => ?_)
  · have e : (x.take k)[i]'(by simp; omega) = (y.take k)[i]'(by simp; omega) := by simp [h]
    simpa using e
  · rcases hs with hs | ⟨_, _, hs⟩
    · exact absurd ⟨h1, h2⟩ hs
    · exact hs

set_option maxRecDepth 100000 in
set_option maxHeartbeats 2000000 in
theorem rshared_any (A B : Option Addr) (n c m d : Nat) (x y : Bs) (w : World) (hx : Rd w A n x) (hy : Rd w B m y) (hn : n ≤ B47) (hm : m ≤ B47) :
    Calls Try.prog 12 #[.slice A n c, .slice B m d] w fun e w' => e = .returned (.int .i64 (shr x y)) ∧ Ext w w' := by
  have HX := Lib.hid hx
  have HY := Lib.hid hy
  have e1 := Lib.hid hx.1
  have e2 := Lib.hid hy.1
  unfold B47 at hn hm
  clear hx hy
  go_enter Try.func12, Try.ntmps12
  go_wp2
  go_loopw [5] (fun i wr => ∃ k : Nat, k ≤ n ∧ k ≤ m ∧ i = .int .i64 k ∧ Hid (x.take k = y.take k) ∧ Ext w wr) (fun i _ => n - (intOf i).toNat)
  case atStart => exact ⟨0, Nat.zero_le _, Nat.zero_le _, rfl, Lib.hid rfl, Ext.rfl_ _⟩
  case round =>
    obtain ⟨k, hk1, hk2, rfl, HT, hE⟩ := hrel
    by_cases c1 : (k : Int) < (n : Int)
    · have d1 : decide ((k : Int) < (n : Int)) = true := decide_eq_true c1
      by_cases c2 : (k : Int) < (m : Int)
      · have d2 : decide ((k : Int) < (m : Int)) = true := decide_eq_true c2
        obtain ⟨b, o, rfl, hc⟩ := HX.out.at_ (by omega)
        obtain ⟨b', o', rfl, hc'⟩ := HY.out.at_ (by omega)
        have g1 := hE.keeps _ _ _ (hc k (by rw [e1.out]; omega))
        have g2 := hE.keeps _ _ _ (hc' k (by rw [e2.out]; omega))
        clear hc hc'
        obtain ⟨p, hp⟩ : ∃ p, p = x[k]'(by rw [e1.out]; omega) := ⟨_, rfl⟩
        obtain ⟨q, hq⟩ : ∃ q, q = y[k]'(by rw [e2.out]; omega) := ⟨_, rfl⟩
        rw [← hp] at g1
        rw [← hq] at g2
        have HP := Lib.hid hp
        have HQ := Lib.hid hq
        clear hp hq
        by_cases hpq : p = q
        · have ht : x.take (k + 1) = y.take (k + 1) := by
            rw [List.take_succ_eq_append_getElem (by rw [e1.out]; omega), List.take_succ_eq_append_getElem (by rw [e2.out]; omega), HT.out, ← HP.out, ← HQ.out, hpq]
          have HT2 := Lib.hid ht
          clear ht
          have d3 : ((p.toNat : Int) == (q.toNat : Int)) = true := by rw [hpq]; simp
          clear hpq
          go_wp2
          go_quiet (fail)
          go_wp2
          go_roundw
          case rel => exact ⟨k + 1, by omega, by omega, by simp, HT2, (by with_reducible (repeat (first | exact Ext.rfl_ _ | assumption | refine Ext.drew ?_ | refine Ext.drewN ?_ _ | refine Ext.alloc ?_ _ | refine Ext.trans ?_ (by assumption))))⟩
          case measure => simp [intOf]; omega
        · have hr : (k : Int) = (shr x y : Nat) := by rw [shr_step (k := k) (by rw [e1.out]; omega) (by rw [e2.out]; omega) HT.out (.inr ⟨by rw [e1.out]; omega, by rw [e2.out]; omega, by rw [← HP.out, ← HQ.out]; exact hpq⟩)]
          have d3 : ((p.toNat : Int) == (q.toNat : Int)) = false := by rw [beq_eq_false_iff_ne]; exact fun h => hpq (UInt8.toNat_inj.1 (by omega))
          have HR := Lib.hid hr
          clear hr hpq
          go_wp2
          go_quiet (fail)
          go_wp2
          go_ret
          exact ⟨ret_int HR.out, (by with_reducible (repeat (first | exact Ext.rfl_ _ | assumption | refine Ext.drew ?_ | refine Ext.drewN ?_ _ | refine Ext.alloc ?_ _ | refine Ext.trans ?_ (by assumption))))⟩
      · have d2 : decide (k < m) = false := decide_eq_false (by omega)
        have hr : (k : Int) = (shr x y : Nat) := by rw [shr_step (k := k) (by rw [e1.out]; omega) (by rw [e2.out]; omega) HT.out (.inl (by rw [e1.out, e2.out]; omega))]
        have HR := Lib.hid hr
        clear hr
        go_wp2
        go_quiet (fail)
        go_wp2
        go_ret
        exact ⟨ret_int HR.out, (by with_reducible (repeat (first | exact Ext.rfl_ _ | assumption | refine Ext.drew ?_ | refine Ext.drewN ?_ _ | refine Ext.alloc ?_ _ | refine Ext.trans ?_ (by assumption))))⟩
    · have d1 : decide (k < n) = false := decide_eq_false (by omega)
      have hr : (k : Int) = (shr x y : Nat) := by rw [shr_step (k := k) (by rw [e1.out]; omega) (by rw [e2.out]; omega) HT.out (.inl (by rw [e1.out, e2.out]; omega))]
      have HR := Lib.hid hr
      clear hr
      go_wp2
      go_quiet (fail)
      go_wp2
      go_ret
      exact ⟨ret_int HR.out, (by with_reducible (repeat (first | exact Ext.rfl_ _ | assumption | refine Ext.drew ?_ | refine Ext.drewN ?_ _ | refine Ext.alloc ?_ _ | refine Ext.trans ?_ (by assumption))))⟩

set_option maxRecDepth 100000 in
set_option maxHeartbeats 2000000 in
theorem shared_any (A B : Option Addr) (n c m d : Nat) (x y : Bs) (w : World) (hx : Rd w A n x) (hy : Rd w B m y) (hn : n ≤ B47) (hm : m ≤ B47) :
    Calls Try.prog 11 #[.slice A n c, .slice B m d] w fun e w' => e = .returned (.int .i64 (shr x y)) ∧ Ext w w' := by
  have HX := Lib.hid hx
  have HY := Lib.hid hy
  have e1 := Lib.hid hx.1
  have e2 := Lib.hid hy.1
  unfold B47 at hn hm
  clear hx hy
  go_enter Try.func11, Try.ntmps11
  go_wp2
  go_loopw [5] (fun i wr => ∃ k : Nat, k ≤ n ∧ k ≤ m ∧ i = .int .i64 k ∧ Hid (x.take k = y.take k) ∧ Ext w wr) (fun i _ => n - (intOf i).toNat)
  case atStart => exact ⟨0, Nat.zero_le _, Nat.zero_le _, rfl, Lib.hid rfl, Ext.rfl_ _⟩
  case round =>
    obtain ⟨k, hk1, hk2, rfl, HT, hE⟩ := hrel
    by_cases c1 : (k : Int) < min (n : Int) (m : Int)
    · have d1 : decide ((k : Int) < (if m < n then (m : Int) else (n : Int))) = true := decide_eq_true (by split <;> omega)
      have c2 : (k : Int) < (n : Int) := by omega
      have c3 : (k : Int) < (m : Int) := by omega
      obtain ⟨b, o, rfl, hc⟩ := HX.out.at_ (by omega)
      obtain ⟨b', o', rfl, hc'⟩ := HY.out.at_ (by omega)
      have g1 := hE.keeps _ _ _ (hc k (by rw [e1.out]; omega))
      have g2 := hE.keeps _ _ _ (hc' k (by rw [e2.out]; omega))
      clear hc hc'
      obtain ⟨p, hp⟩ : ∃ p, p = x[k]'(by rw [e1.out]; omega) := ⟨_, rfl⟩
      obtain ⟨q, hq⟩ : ∃ q, q = y[k]'(by rw [e2.out]; omega) := ⟨_, rfl⟩
      rw [← hp] at g1
      rw [← hq] at g2
      have HP := Lib.hid hp
      have HQ := Lib.hid hq
      clear hp hq
      by_cases hpq : p = q
      · have ht : x.take (k + 1) = y.take (k + 1) := by
          rw [List.take_succ_eq_append_getElem (by rw [e1.out]; omega), List.take_succ_eq_append_getElem (by rw [e2.out]; omega), HT.out, ← HP.out, ← HQ.out, hpq]
        have HT2 := Lib.hid ht
        clear ht
        have d3 : ((p.toNat : Int) == (q.toNat : Int)) = true := by rw [hpq]; simp
        clear hpq
        go_wp2
        refine wp_region_held_drew (S := (fun w' => w'.cell? ⟨b, o + k, none⟩ = some (.int .u8 p.toNat) ∧ w'.cell? ⟨b', o' + k, none⟩ = some (.int .u8 q.toNat))) (by kernel_rfl) (by (try dsimp only); exact ⟨g1, g2⟩) (fun hHeld => ?_)
        refine wpAnyH_take (i := 0) (oi := ({ dst := some 6, op := Go.Op.move (Go.Operand.tmp 5), type := 3, pos := "block.go:25", after := #[], guard := none } : Go.Oper)) (v := ?v1) rfl (by kernel_rfl) (by kernel_rfl) (by kernel_rfl) (fun _ _ _ h => h) (Or.inl ⟨by rfl, ?hy1⟩) (by assumption) ?rest1
        case hy1 => (intro w hSw; (try dsimp only at hSw); go_simp; (try with_reducible rfl))
        (try simp only [Act.put, List.getElem_toArray, List.getElem_cons_zero, List.getElem_cons_succ, List.setIfInBounds_toArray, List.set_cons_zero, List.set_cons_succ])
        refine wpAnyH_take (i := 1) (oi := ({ dst := some 7, op := Go.Op.move (Go.Operand.tmp 0), type := 22, pos := "block.go:25", after := #[], guard := none } : Go.Oper)) (v := ?v2) rfl (by kernel_rfl) (by kernel_rfl) (by kernel_rfl) (fun _ _ _ h => h) (Or.inl ⟨by rfl, ?hy2⟩) (by assumption) ?rest2
        case hy2 => (intro w hSw; (try dsimp only at hSw); go_simp; (try with_reducible rfl))
        (try simp only [Act.put, List.getElem_toArray, List.getElem_cons_zero, List.getElem_cons_succ, List.setIfInBounds_toArray, List.set_cons_zero, List.set_cons_succ])
        refine wpAnyH_take (i := 2) (oi := ({ dst := some 8, op := Go.Op.call { callee := Go.Callee.builtin Go.Builtin.len, args := #[Go.Operand.tmp 7], argTypes := #[22] }, type := 3, pos := "block.go:25", after := #[{ on := 1, ground := Go.Ground.data }], guard := none } : Go.Oper)) (v := ?v3) rfl (by kernel_rfl) (by kernel_rfl) (by kernel_rfl) (fun _ _ _ h => h) (Or.inl ⟨by rfl, ?hy3⟩) (by assumption) ?rest3
        case hy3 => (intro w hSw; (try dsimp only at hSw); go_simp; (try with_reducible rfl))
        (try simp only [Act.put, List.getElem_toArray, List.getElem_cons_zero, List.getElem_cons_succ, List.setIfInBounds_toArray, List.set_cons_zero, List.set_cons_succ])
        refine wpAnyH_take (i := 3) (oi := ({ dst := some 9, op := Go.Op.move (Go.Operand.tmp 1), type := 22, pos := "block.go:25", after := #[], guard := none } : Go.Oper)) (v := ?v4) rfl (by kernel_rfl) (by kernel_rfl) (by kernel_rfl) (fun _ _ _ h => h) (Or.inl ⟨by rfl, ?hy4⟩) (by assumption) ?rest4
        case hy4 => (intro w hSw; (try dsimp only at hSw); go_simp; (try with_reducible rfl))
        (try simp only [Act.put, List.getElem_toArray, List.getElem_cons_zero, List.getElem_cons_succ, List.setIfInBounds_toArray, List.set_cons_zero, List.set_cons_succ])
        refine wpAnyH_take (i := 4) (oi := ({ dst := some 10, op := Go.Op.call { callee := Go.Callee.builtin Go.Builtin.len, args := #[Go.Operand.tmp 9], argTypes := #[22] }, type := 3, pos := "block.go:25", after := #[{ on := 3, ground := Go.Ground.data }], guard := none } : Go.Oper)) (v := ?v5) rfl (by kernel_rfl) (by kernel_rfl) (by kernel_rfl) (fun _ _ _ h => h) (Or.inl ⟨by rfl, ?hy5⟩) (by assumption) ?rest5
        case hy5 => (intro w hSw; (try dsimp only at hSw); go_simp; (try with_reducible rfl))
        (try simp only [Act.put, List.getElem_toArray, List.getElem_cons_zero, List.getElem_cons_succ, List.setIfInBounds_toArray, List.set_cons_zero, List.set_cons_succ])
        refine wpAnyH_take (i := 5) (oi := ({ dst := some 11, op := Go.Op.call { callee := Go.Callee.builtin Go.Builtin.min, args := #[Go.Operand.tmp 8, Go.Operand.tmp 10], argTypes := #[3, 3] }, type := 3, pos := "block.go:25", after := #[{ on := 2, ground := Go.Ground.data }, { on := 4, ground := Go.Ground.data }], guard := none } : Go.Oper)) (v := ?v6) rfl (by kernel_rfl) (by kernel_rfl) (by kernel_rfl) (fun _ _ _ h => h) (Or.inl ⟨by rfl, ?hy6⟩) (by assumption) ?rest6
        case hy6 => (intro w hSw; (try dsimp only at hSw); go_simp; (try with_reducible rfl))
        (try simp only [Act.put, List.getElem_toArray, List.getElem_cons_zero, List.getElem_cons_succ, List.setIfInBounds_toArray, List.set_cons_zero, List.set_cons_succ])
        refine wpAnyH_take (i := 6) (oi := ({ dst := some 12, op := Go.Op.binOp Go.BinOp.lss 3 (Go.Operand.tmp 6) (Go.Operand.tmp 11) 3, type := 4, pos := "block.go:25", after := #[{ on := 0, ground := Go.Ground.data }, { on := 5, ground := Go.Ground.data }], guard := none } : Go.Oper)) (v := ?v7) rfl (by kernel_rfl) (by kernel_rfl) (by kernel_rfl) (fun _ _ _ h => h) (Or.inl ⟨by rfl, ?hy7⟩) (by assumption) ?rest7
        case hy7 => (intro w hSw; (try dsimp only at hSw); go_simp; (try with_reducible rfl))
        (try simp only [Act.put, List.getElem_toArray, List.getElem_cons_zero, List.getElem_cons_succ, List.setIfInBounds_toArray, List.set_cons_zero, List.set_cons_succ])
        refine wpAnyH_take (i := 7) (oi := ({ dst := some 13, op := Go.Op.move (Go.Operand.tmp 12), type := 4, pos := "block.go:25", after := #[{ on := 6, ground := Go.Ground.data }], guard := none } : Go.Oper)) (v := ?v8) rfl (by kernel_rfl) (by kernel_rfl) (by kernel_rfl) (fun _ _ _ h => h) (Or.inl ⟨by rfl, ?hy8⟩) (by assumption) ?rest8
        case hy8 => (intro w hSw; (try dsimp only at hSw); go_simp; (try with_reducible rfl))
        (try simp only [Act.put, List.getElem_toArray, List.getElem_cons_zero, List.getElem_cons_succ, List.setIfInBounds_toArray, List.set_cons_zero, List.set_cons_succ])
        refine wpAnyH_take (i := 8) (oi := ({ dst := some 14, op := Go.Op.move (Go.Operand.tmp 0), type := 22, pos := "block.go:25", after := #[{ on := 7, ground := Go.Ground.guard }], guard := some (7, true) } : Go.Oper)) (v := ?v9) rfl (by kernel_rfl) (by kernel_rfl) (by kernel_rfl) (fun _ _ _ h => h) (Or.inl ⟨by rfl, ?hy9⟩) (by assumption) ?rest9
        case hy9 => (intro w hSw; (try dsimp only at hSw); go_simp; (try with_reducible rfl))
        (try simp only [Act.put, List.getElem_toArray, List.getElem_cons_zero, List.getElem_cons_succ, List.setIfInBounds_toArray, List.set_cons_zero, List.set_cons_succ])
        refine wpAnyH_take (i := 9) (oi := ({ dst := some 15, op := Go.Op.move (Go.Operand.tmp 5), type := 3, pos := "block.go:25", after := #[{ on := 7, ground := Go.Ground.guard }], guard := some (7, true) } : Go.Oper)) (v := ?v10) rfl (by kernel_rfl) (by kernel_rfl) (by kernel_rfl) (fun _ _ _ h => h) (Or.inl ⟨by rfl, ?hy10⟩) (by assumption) ?rest10
        case hy10 => (intro w hSw; (try dsimp only at hSw); go_simp; (try with_reducible rfl))
        (try simp only [Act.put, List.getElem_toArray, List.getElem_cons_zero, List.getElem_cons_succ, List.setIfInBounds_toArray, List.set_cons_zero, List.set_cons_succ])
        refine wpAnyH_take (i := 10) (oi := ({ dst := some 16, op := Go.Op.indexAddr 22 (Go.Operand.tmp 14) (Go.Operand.tmp 15), type := 0, pos := "block.go:25", after := #[{ on := 8, ground := Go.Ground.data }, { on := 9, ground := Go.Ground.data }, { on := 7, ground := Go.Ground.guard }], guard := some (7, true) } : Go.Oper)) (v := ?v11) rfl (by kernel_rfl) (by kernel_rfl) (by kernel_rfl) (fun _ _ _ h => h) (Or.inl ⟨by rfl, ?hy11⟩) (by assumption) ?rest11
        case hy11 => (intro w hSw; (try dsimp only at hSw); go_simp; (try with_reducible rfl))
        (try simp only [Act.put, List.getElem_toArray, List.getElem_cons_zero, List.getElem_cons_succ, List.setIfInBounds_toArray, List.set_cons_zero, List.set_cons_succ])
        refine wpAnyH_take (i := 11) (oi := ({ dst := some 17, op := Go.Op.load 5 (Go.Operand.tmp 16), type := 5, pos := "block.go:25", after := #[{ on := 10, ground := Go.Ground.data }, { on := 7, ground := Go.Ground.guard }], guard := some (7, true) } : Go.Oper)) (v := ?v12) rfl (by kernel_rfl) (by kernel_rfl) (by kernel_rfl) (fun _ _ _ h => h) (Or.inl ⟨by rfl, ?hy12⟩) (by assumption) ?rest12
        case hy12 => (intro w hSw; (try dsimp only at hSw); go_simp; (try with_reducible rfl))
        (try simp only [Act.put, List.getElem_toArray, List.getElem_cons_zero, List.getElem_cons_succ, List.setIfInBounds_toArray, List.set_cons_zero, List.set_cons_succ])
        refine wpAnyH_take (i := 12) (oi := ({ dst := some 18, op := Go.Op.move (Go.Operand.tmp 1), type := 22, pos := "block.go:25", after := #[{ on := 7, ground := Go.Ground.guard }], guard := some (7, true) } : Go.Oper)) (v := ?v13) rfl (by kernel_rfl) (by kernel_rfl) (by kernel_rfl) (fun _ _ _ h => h) (Or.inl ⟨by rfl, ?hy13⟩) (by assumption) ?rest13
        case hy13 => (intro w hSw; (try dsimp only at hSw); go_simp; (try with_reducible rfl))
        (try simp only [Act.put, List.getElem_toArray, List.getElem_cons_zero, List.getElem_cons_succ, List.setIfInBounds_toArray, List.set_cons_zero, List.set_cons_succ])
        refine wpAnyH_take (i := 13) (oi := ({ dst := some 19, op := Go.Op.move (Go.Operand.tmp 5), type := 3, pos := "block.go:25", after := #[{ on := 7, ground := Go.Ground.guard }], guard := some (7, true) } : Go.Oper)) (v := ?v14) rfl (by kernel_rfl) (by kernel_rfl) (by kernel_rfl) (fun _ _ _ h => h) (Or.inl ⟨by rfl, ?hy14⟩) (by assumption) ?rest14
        case hy14 => (intro w hSw; (try dsimp only at hSw); go_simp; (try with_reducible rfl))
        (try simp only [Act.put, List.getElem_toArray, List.getElem_cons_zero, List.getElem_cons_succ, List.setIfInBounds_toArray, List.set_cons_zero, List.set_cons_succ])
        refine wpAnyH_take (i := 14) (oi := ({ dst := some 20, op := Go.Op.indexAddr 22 (Go.Operand.tmp 18) (Go.Operand.tmp 19), type := 0, pos := "block.go:25", after := #[{ on := 12, ground := Go.Ground.data }, { on := 13, ground := Go.Ground.data }, { on := 7, ground := Go.Ground.guard }], guard := some (7, true) } : Go.Oper)) (v := ?v15) rfl (by kernel_rfl) (by kernel_rfl) (by kernel_rfl) (fun _ _ _ h => h) (Or.inl ⟨by rfl, ?hy15⟩) (by assumption) ?rest15
        case hy15 => (intro w hSw; (try dsimp only at hSw); go_simp; (try with_reducible rfl))
        (try simp only [Act.put, List.getElem_toArray, List.getElem_cons_zero, List.getElem_cons_succ, List.setIfInBounds_toArray, List.set_cons_zero, List.set_cons_succ])
        refine wpAnyH_take (i := 15) (oi := ({ dst := some 21, op := Go.Op.load 5 (Go.Operand.tmp 20), type := 5, pos := "block.go:25", after := #[{ on := 14, ground := Go.Ground.data }, { on := 7, ground := Go.Ground.guard }], guard := some (7, true) } : Go.Oper)) (v := ?v16) rfl (by kernel_rfl) (by kernel_rfl) (by kernel_rfl) (fun _ _ _ h => h) (Or.inl ⟨by rfl, ?hy16⟩) (by assumption) ?rest16
        case hy16 => (intro w hSw; (try dsimp only at hSw); go_simp; (try with_reducible rfl))
        (try simp only [Act.put, List.getElem_toArray, List.getElem_cons_zero, List.getElem_cons_succ, List.setIfInBounds_toArray, List.set_cons_zero, List.set_cons_succ])
        refine wpAnyH_take (i := 16) (oi := ({ dst := some 22, op := Go.Op.binOp Go.BinOp.eql 5 (Go.Operand.tmp 17) (Go.Operand.tmp 21) 5, type := 4, pos := "block.go:25", after := #[{ on := 11, ground := Go.Ground.data }, { on := 15, ground := Go.Ground.data }, { on := 7, ground := Go.Ground.guard }], guard := some (7, true) } : Go.Oper)) (v := ?v17) rfl (by kernel_rfl) (by kernel_rfl) (by kernel_rfl) (fun _ _ _ h => h) (Or.inl ⟨by rfl, ?hy17⟩) (by assumption) ?rest17
        case hy17 => (intro w hSw; (try dsimp only at hSw); go_simp; (try with_reducible rfl))
        (try simp only [Act.put, List.getElem_toArray, List.getElem_cons_zero, List.getElem_cons_succ, List.setIfInBounds_toArray, List.set_cons_zero, List.set_cons_succ])
        refine wpAnyH_take (i := 17) (oi := ({ dst := some 23, op := Go.Op.pick (Go.Operand.tmp 13) (Go.Operand.tmp 22) (Go.Operand.const (Go.Value.bool false)), type := 4, pos := "block.go:25", after := #[{ on := 7, ground := Go.Ground.data }, { on := 16, ground := Go.Ground.data }], guard := none } : Go.Oper)) (v := ?v18) rfl (by kernel_rfl) (by kernel_rfl) (by kernel_rfl) (fun _ _ _ h => h) (Or.inl ⟨by rfl, ?hy18⟩) (by assumption) ?rest18
        case hy18 => (intro w hSw; (try dsimp only at hSw); go_simp; (try with_reducible rfl))
        (try simp only [Act.put, List.getElem_toArray, List.getElem_cons_zero, List.getElem_cons_succ, List.setIfInBounds_toArray, List.set_cons_zero, List.set_cons_succ])
        refine wpAnyH_done (by kernel_rfl) ?_ _
        go_wp2
        go_roundw
        case rel => exact ⟨k + 1, by omega, by omega, by simp, HT2, (by with_reducible (repeat (first | exact Ext.rfl_ _ | assumption | refine Ext.drew ?_ | refine Ext.drewN ?_ _ | refine Ext.alloc ?_ _ | refine Ext.trans ?_ (by assumption))))⟩
        case measure => simp [intOf]; omega
      · have hr : (k : Int) = (shr x y : Nat) := by rw [shr_step (k := k) (by rw [e1.out]; omega) (by rw [e2.out]; omega) HT.out (.inr ⟨by rw [e1.out]; omega, by rw [e2.out]; omega, by rw [← HP.out, ← HQ.out]; exact hpq⟩)]
        have d3 : ((p.toNat : Int) == (q.toNat : Int)) = false := by rw [beq_eq_false_iff_ne]; exact fun h => hpq (UInt8.toNat_inj.1 (by omega))
        have HR := Lib.hid hr
        clear hr hpq
        go_wp2
        refine wp_region_held_drew (S := (fun w' => w'.cell? ⟨b, o + k, none⟩ = some (.int .u8 p.toNat) ∧ w'.cell? ⟨b', o' + k, none⟩ = some (.int .u8 q.toNat))) (by kernel_rfl) (by (try dsimp only); exact ⟨g1, g2⟩) (fun hHeld => ?_)
        refine wpAnyH_take (i := 0) (oi := ({ dst := some 6, op := Go.Op.move (Go.Operand.tmp 5), type := 3, pos := "block.go:25", after := #[], guard := none } : Go.Oper)) (v := ?v19) rfl (by kernel_rfl) (by kernel_rfl) (by kernel_rfl) (fun _ _ _ h => h) (Or.inl ⟨by rfl, ?hy19⟩) (by assumption) ?rest19
        case hy19 => (intro w hSw; (try dsimp only at hSw); go_simp; (try with_reducible rfl))
        (try simp only [Act.put, List.getElem_toArray, List.getElem_cons_zero, List.getElem_cons_succ, List.setIfInBounds_toArray, List.set_cons_zero, List.set_cons_succ])
        refine wpAnyH_take (i := 1) (oi := ({ dst := some 7, op := Go.Op.move (Go.Operand.tmp 0), type := 22, pos := "block.go:25", after := #[], guard := none } : Go.Oper)) (v := ?v20) rfl (by kernel_rfl) (by kernel_rfl) (by kernel_rfl) (fun _ _ _ h => h) (Or.inl ⟨by rfl, ?hy20⟩) (by assumption) ?rest20
        case hy20 => (intro w hSw; (try dsimp only at hSw); go_simp; (try with_reducible rfl))
        (try simp only [Act.put, List.getElem_toArray, List.getElem_cons_zero, List.getElem_cons_succ, List.setIfInBounds_toArray, List.set_cons_zero, List.set_cons_succ])
        refine wpAnyH_take (i := 2) (oi := ({ dst := some 8, op := Go.Op.call { callee := Go.Callee.builtin Go.Builtin.len, args := #[Go.Operand.tmp 7], argTypes := #[22] }, type := 3, pos := "block.go:25", after := #[{ on := 1, ground := Go.Ground.data }], guard := none } : Go.Oper)) (v := ?v21) rfl (by kernel_rfl) (by kernel_rfl) (by kernel_rfl) (fun _ _ _ h => h) (Or.inl ⟨by rfl, ?hy21⟩) (by assumption) ?rest21
        case hy21 => (intro w hSw; (try dsimp only at hSw); go_simp; (try with_reducible rfl))
        (try simp only [Act.put, List.getElem_toArray, List.getElem_cons_zero, List.getElem_cons_succ, List.setIfInBounds_toArray, List.set_cons_zero, List.set_cons_succ])
        refine wpAnyH_take (i := 3) (oi := ({ dst := some 9, op := Go.Op.move (Go.Operand.tmp 1), type := 22, pos := "block.go:25", after := #[], guard := none } : Go.Oper)) (v := ?v22) rfl (by kernel_rfl) (by kernel_rfl) (by kernel_rfl) (fun _ _ _ h => h) (Or.inl ⟨by rfl, ?hy22⟩) (by assumption) ?rest22
        case hy22 => (intro w hSw; (try dsimp only at hSw); go_simp; (try with_reducible rfl))
        (try simp only [Act.put, List.getElem_toArray, List.getElem_cons_zero, List.getElem_cons_succ, List.setIfInBounds_toArray, List.set_cons_zero, List.set_cons_succ])
        refine wpAnyH_take (i := 4) (oi := ({ dst := some 10, op := Go.Op.call { callee := Go.Callee.builtin Go.Builtin.len, args := #[Go.Operand.tmp 9], argTypes := #[22] }, type := 3, pos := "block.go:25", after := #[{ on := 3, ground := Go.Ground.data }], guard := none } : Go.Oper)) (v := ?v23) rfl (by kernel_rfl) (by kernel_rfl) (by kernel_rfl) (fun _ _ _ h => h) (Or.inl ⟨by rfl, ?hy23⟩) (by assumption) ?rest23
        case hy23 => (intro w hSw; (try dsimp only at hSw); go_simp; (try with_reducible rfl))
        (try simp only [Act.put, List.getElem_toArray, List.getElem_cons_zero, List.getElem_cons_succ, List.setIfInBounds_toArray, List.set_cons_zero, List.set_cons_succ])
        refine wpAnyH_take (i := 5) (oi := ({ dst := some 11, op := Go.Op.call { callee := Go.Callee.builtin Go.Builtin.min, args := #[Go.Operand.tmp 8, Go.Operand.tmp 10], argTypes := #[3, 3] }, type := 3, pos := "block.go:25", after := #[{ on := 2, ground := Go.Ground.data }, { on := 4, ground := Go.Ground.data }], guard := none } : Go.Oper)) (v := ?v24) rfl (by kernel_rfl) (by kernel_rfl) (by kernel_rfl) (fun _ _ _ h => h) (Or.inl ⟨by rfl, ?hy24⟩) (by assumption) ?rest24
        case hy24 => (intro w hSw; (try dsimp only at hSw); go_simp; (try with_reducible rfl))
        (try simp only [Act.put, List.getElem_toArray, List.getElem_cons_zero, List.getElem_cons_succ, List.setIfInBounds_toArray, List.set_cons_zero, List.set_cons_succ])
        refine wpAnyH_take (i := 6) (oi := ({ dst := some 12, op := Go.Op.binOp Go.BinOp.lss 3 (Go.Operand.tmp 6) (Go.Operand.tmp 11) 3, type := 4, pos := "block.go:25", after := #[{ on := 0, ground := Go.Ground.data }, { on := 5, ground := Go.Ground.data }], guard := none } : Go.Oper)) (v := ?v25) rfl (by kernel_rfl) (by kernel_rfl) (by kernel_rfl) (fun _ _ _ h => h) (Or.inl ⟨by rfl, ?hy25⟩) (by assumption) ?rest25
        case hy25 => (intro w hSw; (try dsimp only at hSw); go_simp; (try with_reducible rfl))
        (try simp only [Act.put, List.getElem_toArray, List.getElem_cons_zero, List.getElem_cons_succ, List.setIfInBounds_toArray, List.set_cons_zero, List.set_cons_succ])
        refine wpAnyH_take (i := 7) (oi := ({ dst := some 13, op := Go.Op.move (Go.Operand.tmp 12), type := 4, pos := "block.go:25", after := #[{ on := 6, ground := Go.Ground.data }], guard := none } : Go.Oper)) (v := ?v26) rfl (by kernel_rfl) (by kernel_rfl) (by kernel_rfl) (fun _ _ _ h => h) (Or.inl ⟨by rfl, ?hy26⟩) (by assumption) ?rest26
        case hy26 => (intro w hSw; (try dsimp only at hSw); go_simp; (try with_reducible rfl))
        (try simp only [Act.put, List.getElem_toArray, List.getElem_cons_zero, List.getElem_cons_succ, List.setIfInBounds_toArray, List.set_cons_zero, List.set_cons_succ])
        refine wpAnyH_take (i := 8) (oi := ({ dst := some 14, op := Go.Op.move (Go.Operand.tmp 0), type := 22, pos := "block.go:25", after := #[{ on := 7, ground := Go.Ground.guard }], guard := some (7, true) } : Go.Oper)) (v := ?v27) rfl (by kernel_rfl) (by kernel_rfl) (by kernel_rfl) (fun _ _ _ h => h) (Or.inl ⟨by rfl, ?hy27⟩) (by assumption) ?rest27
        case hy27 => (intro w hSw; (try dsimp only at hSw); go_simp; (try with_reducible rfl))
        (try simp only [Act.put, List.getElem_toArray, List.getElem_cons_zero, List.getElem_cons_succ, List.setIfInBounds_toArray, List.set_cons_zero, List.set_cons_succ])
        refine wpAnyH_take (i := 9) (oi := ({ dst := some 15, op := Go.Op.move (Go.Operand.tmp 5), type := 3, pos := "block.go:25", after := #[{ on := 7, ground := Go.Ground.guard }], guard := some (7, true) } : Go.Oper)) (v := ?v28) rfl (by kernel_rfl) (by kernel_rfl) (by kernel_rfl) (fun _ _ _ h => h) (Or.inl ⟨by rfl, ?hy28⟩) (by assumption) ?rest28
        case hy28 => (intro w hSw; (try dsimp only at hSw); go_simp; (try with_reducible rfl))
        (try simp only [Act.put, List.getElem_toArray, List.getElem_cons_zero, List.getElem_cons_succ, List.setIfInBounds_toArray, List.set_cons_zero, List.set_cons_succ])
        refine wpAnyH_take (i := 10) (oi := ({ dst := some 16, op := Go.Op.indexAddr 22 (Go.Operand.tmp 14) (Go.Operand.tmp 15), type := 0, pos := "block.go:25", after := #[{ on := 8, ground := Go.Ground.data }, { on := 9, ground := Go.Ground.data }, { on := 7, ground := Go.Ground.guard }], guard := some (7, true) } : Go.Oper)) (v := ?v29) rfl (by kernel_rfl) (by kernel_rfl) (by kernel_rfl) (fun _ _ _ h => h) (Or.inl ⟨by rfl, ?hy29⟩) (by assumption) ?rest29
        case hy29 => (intro w hSw; (try dsimp only at hSw); go_simp; (try with_reducible rfl))
        (try simp only [Act.put, List.getElem_toArray, List.getElem_cons_zero, List.getElem_cons_succ, List.setIfInBounds_toArray, List.set_cons_zero, List.set_cons_succ])
        refine wpAnyH_take (i := 11) (oi := ({ dst := some 17, op := Go.Op.load 5 (Go.Operand.tmp 16), type := 5, pos := "block.go:25", after := #[{ on := 10, ground := Go.Ground.data }, { on := 7, ground := Go.Ground.guard }], guard := some (7, true) } : Go.Oper)) (v := ?v30) rfl (by kernel_rfl) (by kernel_rfl) (by kernel_rfl) (fun _ _ _ h => h) (Or.inl ⟨by rfl, ?hy30⟩) (by assumption) ?rest30
        case hy30 => (intro w hSw; (try dsimp only at hSw); go_simp; (try with_reducible rfl))
        (try simp only [Act.put, List.getElem_toArray, List.getElem_cons_zero, List.getElem_cons_succ, List.setIfInBounds_toArray, List.set_cons_zero, List.set_cons_succ])
        refine wpAnyH_take (i := 12) (oi := ({ dst := some 18, op := Go.Op.move (Go.Operand.tmp 1), type := 22, pos := "block.go:25", after := #[{ on := 7, ground := Go.Ground.guard }], guard := some (7, true) } : Go.Oper)) (v := ?v31) rfl (by kernel_rfl) (by kernel_rfl) (by kernel_rfl) (fun _ _ _ h => h) (Or.inl ⟨by rfl, ?hy31⟩) (by assumption) ?rest31
        case hy31 => (intro w hSw; (try dsimp only at hSw); go_simp; (try with_reducible rfl))
        (try simp only [Act.put, List.getElem_toArray, List.getElem_cons_zero, List.getElem_cons_succ, List.setIfInBounds_toArray, List.set_cons_zero, List.set_cons_succ])
        refine wpAnyH_take (i := 13) (oi := ({ dst := some 19, op := Go.Op.move (Go.Operand.tmp 5), type := 3, pos := "block.go:25", after := #[{ on := 7, ground := Go.Ground.guard }], guard := some (7, true) } : Go.Oper)) (v := ?v32) rfl (by kernel_rfl) (by kernel_rfl) (by kernel_rfl) (fun _ _ _ h => h) (Or.inl ⟨by rfl, ?hy32⟩) (by assumption) ?rest32
        case hy32 => (intro w hSw; (try dsimp only at hSw); go_simp; (try with_reducible rfl))
        (try simp only [Act.put, List.getElem_toArray, List.getElem_cons_zero, List.getElem_cons_succ, List.setIfInBounds_toArray, List.set_cons_zero, List.set_cons_succ])
        refine wpAnyH_take (i := 14) (oi := ({ dst := some 20, op := Go.Op.indexAddr 22 (Go.Operand.tmp 18) (Go.Operand.tmp 19), type := 0, pos := "block.go:25", after := #[{ on := 12, ground := Go.Ground.data }, { on := 13, ground := Go.Ground.data }, { on := 7, ground := Go.Ground.guard }], guard := some (7, true) } : Go.Oper)) (v := ?v33) rfl (by kernel_rfl) (by kernel_rfl) (by kernel_rfl) (fun _ _ _ h => h) (Or.inl ⟨by rfl, ?hy33⟩) (by assumption) ?rest33
        case hy33 => (intro w hSw; (try dsimp only at hSw); go_simp; (try with_reducible rfl))
        (try simp only [Act.put, List.getElem_toArray, List.getElem_cons_zero, List.getElem_cons_succ, List.setIfInBounds_toArray, List.set_cons_zero, List.set_cons_succ])
        refine wpAnyH_take (i := 15) (oi := ({ dst := some 21, op := Go.Op.load 5 (Go.Operand.tmp 20), type := 5, pos := "block.go:25", after := #[{ on := 14, ground := Go.Ground.data }, { on := 7, ground := Go.Ground.guard }], guard := some (7, true) } : Go.Oper)) (v := ?v34) rfl (by kernel_rfl) (by kernel_rfl) (by kernel_rfl) (fun _ _ _ h => h) (Or.inl ⟨by rfl, ?hy34⟩) (by assumption) ?rest34
        case hy34 => (intro w hSw; (try dsimp only at hSw); go_simp; (try with_reducible rfl))
        (try simp only [Act.put, List.getElem_toArray, List.getElem_cons_zero, List.getElem_cons_succ, List.setIfInBounds_toArray, List.set_cons_zero, List.set_cons_succ])
        refine wpAnyH_take (i := 16) (oi := ({ dst := some 22, op := Go.Op.binOp Go.BinOp.eql 5 (Go.Operand.tmp 17) (Go.Operand.tmp 21) 5, type := 4, pos := "block.go:25", after := #[{ on := 11, ground := Go.Ground.data }, { on := 15, ground := Go.Ground.data }, { on := 7, ground := Go.Ground.guard }], guard := some (7, true) } : Go.Oper)) (v := ?v35) rfl (by kernel_rfl) (by kernel_rfl) (by kernel_rfl) (fun _ _ _ h => h) (Or.inl ⟨by rfl, ?hy35⟩) (by assumption) ?rest35
        case hy35 => (intro w hSw; (try dsimp only at hSw); go_simp; (try with_reducible rfl))
        (try simp only [Act.put, List.getElem_toArray, List.getElem_cons_zero, List.getElem_cons_succ, List.setIfInBounds_toArray, List.set_cons_zero, List.set_cons_succ])
        refine wpAnyH_take (i := 17) (oi := ({ dst := some 23, op := Go.Op.pick (Go.Operand.tmp 13) (Go.Operand.tmp 22) (Go.Operand.const (Go.Value.bool false)), type := 4, pos := "block.go:25", after := #[{ on := 7, ground := Go.Ground.data }, { on := 16, ground := Go.Ground.data }], guard := none } : Go.Oper)) (v := ?v36) rfl (by kernel_rfl) (by kernel_rfl) (by kernel_rfl) (fun _ _ _ h => h) (Or.inl ⟨by rfl, ?hy36⟩) (by assumption) ?rest36
        case hy36 => (intro w hSw; (try dsimp only at hSw); go_simp; (try with_reducible rfl))
        (try simp only [Act.put, List.getElem_toArray, List.getElem_cons_zero, List.getElem_cons_succ, List.setIfInBounds_toArray, List.set_cons_zero, List.set_cons_succ])
        refine wpAnyH_done (by kernel_rfl) ?_ _
        go_wp2
        all_goals
          go_ret
          exact ⟨ret_int HR.out, (by with_reducible (repeat (first | exact Ext.rfl_ _ | assumption | refine Ext.drew ?_ | refine Ext.drewN ?_ _ | refine Ext.alloc ?_ _ | refine Ext.trans ?_ (by assumption))))⟩
    · have d1 : decide ((k : Int) < (if m < n then (m : Int) else (n : Int))) = false := decide_eq_false (by split <;> omega)
      have hr : (k : Int) = (shr x y : Nat) := by rw [shr_step (k := k) (by rw [e1.out]; omega) (by rw [e2.out]; omega) HT.out (.inl (by rw [e1.out, e2.out]; omega))]
      have HR := Lib.hid hr
      clear hr
      go_wp2
      refine wp_region_held_drew (S := (fun _ => True)) (by kernel_rfl) (by (try dsimp only); (all_goals trivial)) (fun hHeld => ?_)
      refine wpAnyH_take (i := 0) (oi := ({ dst := some 6, op := Go.Op.move (Go.Operand.tmp 5), type := 3, pos := "block.go:25", after := #[], guard := none } : Go.Oper)) (v := ?v37) rfl (by kernel_rfl) (by kernel_rfl) (by kernel_rfl) (fun _ _ _ h => h) (Or.inl ⟨by rfl, ?hy37⟩) (by assumption) ?rest37
      case hy37 => (intro w hSw; (try dsimp only at hSw); go_simp; (try with_reducible rfl))
      (try simp only [Act.put, List.getElem_toArray, List.getElem_cons_zero, List.getElem_cons_succ, List.setIfInBounds_toArray, List.set_cons_zero, List.set_cons_succ])
      refine wpAnyH_take (i := 1) (oi := ({ dst := some 7, op := Go.Op.move (Go.Operand.tmp 0), type := 22, pos := "block.go:25", after := #[], guard := none } : Go.Oper)) (v := ?v38) rfl (by kernel_rfl) (by kernel_rfl) (by kernel_rfl) (fun _ _ _ h => h) (Or.inl ⟨by rfl, ?hy38⟩) (by assumption) ?rest38
      case hy38 => (intro w hSw; (try dsimp only at hSw); go_simp; (try with_reducible rfl))
      (try simp only [Act.put, List.getElem_toArray, List.getElem_cons_zero, List.getElem_cons_succ, List.setIfInBounds_toArray, List.set_cons_zero, List.set_cons_succ])
      refine wpAnyH_take (i := 2) (oi := ({ dst := some 8, op := Go.Op.call { callee := Go.Callee.builtin Go.Builtin.len, args := #[Go.Operand.tmp 7], argTypes := #[22] }, type := 3, pos := "block.go:25", after := #[{ on := 1, ground := Go.Ground.data }], guard := none } : Go.Oper)) (v := ?v39) rfl (by kernel_rfl) (by kernel_rfl) (by kernel_rfl) (fun _ _ _ h => h) (Or.inl ⟨by rfl, ?hy39⟩) (by assumption) ?rest39
      case hy39 => (intro w hSw; (try dsimp only at hSw); go_simp; (try with_reducible rfl))
      (try simp only [Act.put, List.getElem_toArray, List.getElem_cons_zero, List.getElem_cons_succ, List.setIfInBounds_toArray, List.set_cons_zero, List.set_cons_succ])
      refine wpAnyH_take (i := 3) (oi := ({ dst := some 9, op := Go.Op.move (Go.Operand.tmp 1), type := 22, pos := "block.go:25", after := #[], guard := none } : Go.Oper)) (v := ?v40) rfl (by kernel_rfl) (by kernel_rfl) (by kernel_rfl) (fun _ _ _ h => h) (Or.inl ⟨by rfl, ?hy40⟩) (by assumption) ?rest40
      case hy40 => (intro w hSw; (try dsimp only at hSw); go_simp; (try with_reducible rfl))
      (try simp only [Act.put, List.getElem_toArray, List.getElem_cons_zero, List.getElem_cons_succ, List.setIfInBounds_toArray, List.set_cons_zero, List.set_cons_succ])
      refine wpAnyH_take (i := 4) (oi := ({ dst := some 10, op := Go.Op.call { callee := Go.Callee.builtin Go.Builtin.len, args := #[Go.Operand.tmp 9], argTypes := #[22] }, type := 3, pos := "block.go:25", after := #[{ on := 3, ground := Go.Ground.data }], guard := none } : Go.Oper)) (v := ?v41) rfl (by kernel_rfl) (by kernel_rfl) (by kernel_rfl) (fun _ _ _ h => h) (Or.inl ⟨by rfl, ?hy41⟩) (by assumption) ?rest41
      case hy41 => (intro w hSw; (try dsimp only at hSw); go_simp; (try with_reducible rfl))
      (try simp only [Act.put, List.getElem_toArray, List.getElem_cons_zero, List.getElem_cons_succ, List.setIfInBounds_toArray, List.set_cons_zero, List.set_cons_succ])
      refine wpAnyH_take (i := 5) (oi := ({ dst := some 11, op := Go.Op.call { callee := Go.Callee.builtin Go.Builtin.min, args := #[Go.Operand.tmp 8, Go.Operand.tmp 10], argTypes := #[3, 3] }, type := 3, pos := "block.go:25", after := #[{ on := 2, ground := Go.Ground.data }, { on := 4, ground := Go.Ground.data }], guard := none } : Go.Oper)) (v := ?v42) rfl (by kernel_rfl) (by kernel_rfl) (by kernel_rfl) (fun _ _ _ h => h) (Or.inl ⟨by rfl, ?hy42⟩) (by assumption) ?rest42
      case hy42 => (intro w hSw; (try dsimp only at hSw); go_simp; (try with_reducible rfl))
      (try simp only [Act.put, List.getElem_toArray, List.getElem_cons_zero, List.getElem_cons_succ, List.setIfInBounds_toArray, List.set_cons_zero, List.set_cons_succ])
      refine wpAnyH_take (i := 6) (oi := ({ dst := some 12, op := Go.Op.binOp Go.BinOp.lss 3 (Go.Operand.tmp 6) (Go.Operand.tmp 11) 3, type := 4, pos := "block.go:25", after := #[{ on := 0, ground := Go.Ground.data }, { on := 5, ground := Go.Ground.data }], guard := none } : Go.Oper)) (v := ?v43) rfl (by kernel_rfl) (by kernel_rfl) (by kernel_rfl) (fun _ _ _ h => h) (Or.inl ⟨by rfl, ?hy43⟩) (by assumption) ?rest43
      case hy43 => (intro w hSw; (try dsimp only at hSw); go_simp; (try with_reducible rfl))
      (try simp only [Act.put, List.getElem_toArray, List.getElem_cons_zero, List.getElem_cons_succ, List.setIfInBounds_toArray, List.set_cons_zero, List.set_cons_succ])
      refine wpAnyH_take (i := 7) (oi := ({ dst := some 13, op := Go.Op.move (Go.Operand.tmp 12), type := 4, pos := "block.go:25", after := #[{ on := 6, ground := Go.Ground.data }], guard := none } : Go.Oper)) (v := ?v44) rfl (by kernel_rfl) (by kernel_rfl) (by kernel_rfl) (fun _ _ _ h => h) (Or.inl ⟨by rfl, ?hy44⟩) (by assumption) ?rest44
      case hy44 => (intro w hSw; (try dsimp only at hSw); go_simp; (try with_reducible rfl))
      (try simp only [Act.put, List.getElem_toArray, List.getElem_cons_zero, List.getElem_cons_succ, List.setIfInBounds_toArray, List.set_cons_zero, List.set_cons_succ])
      refine wpAnyH_take (i := 8) (oi := ({ dst := some 14, op := Go.Op.move (Go.Operand.tmp 0), type := 22, pos := "block.go:25", after := #[{ on := 7, ground := Go.Ground.guard }], guard := some (7, true) } : Go.Oper)) (v := undef) rfl (by kernel_rfl) (by kernel_rfl) (by kernel_rfl) (fun _ _ _ h => h) (Or.inr ⟨by rfl, rfl⟩) (by assumption) ?_
      (try simp only [Act.put, List.getElem_toArray, List.getElem_cons_zero, List.getElem_cons_succ, List.setIfInBounds_toArray, List.set_cons_zero, List.set_cons_succ])
      refine wpAnyH_take (i := 9) (oi := ({ dst := some 15, op := Go.Op.move (Go.Operand.tmp 5), type := 3, pos := "block.go:25", after := #[{ on := 7, ground := Go.Ground.guard }], guard := some (7, true) } : Go.Oper)) (v := undef) rfl (by kernel_rfl) (by kernel_rfl) (by kernel_rfl) (fun _ _ _ h => h) (Or.inr ⟨by rfl, rfl⟩) (by assumption) ?_
      (try simp only [Act.put, List.getElem_toArray, List.getElem_cons_zero, List.getElem_cons_succ, List.setIfInBounds_toArray, List.set_cons_zero, List.set_cons_succ])
      refine wpAnyH_take (i := 10) (oi := ({ dst := some 16, op := Go.Op.indexAddr 22 (Go.Operand.tmp 14) (Go.Operand.tmp 15), type := 0, pos := "block.go:25", after := #[{ on := 8, ground := Go.Ground.data }, { on := 9, ground := Go.Ground.data }, { on := 7, ground := Go.Ground.guard }], guard := some (7, true) } : Go.Oper)) (v := undef) rfl (by kernel_rfl) (by kernel_rfl) (by kernel_rfl) (fun _ _ _ h => h) (Or.inr ⟨by rfl, rfl⟩) (by assumption) ?_
      (try simp only [Act.put, List.getElem_toArray, List.getElem_cons_zero, List.getElem_cons_succ, List.setIfInBounds_toArray, List.set_cons_zero, List.set_cons_succ])
      refine wpAnyH_take (i := 11) (oi := ({ dst := some 17, op := Go.Op.load 5 (Go.Operand.tmp 16), type := 5, pos := "block.go:25", after := #[{ on := 10, ground := Go.Ground.data }, { on := 7, ground := Go.Ground.guard }], guard := some (7, true) } : Go.Oper)) (v := undef) rfl (by kernel_rfl) (by kernel_rfl) (by kernel_rfl) (fun _ _ _ h => h) (Or.inr ⟨by rfl, rfl⟩) (by assumption) ?_
      (try simp only [Act.put, List.getElem_toArray, List.getElem_cons_zero, List.getElem_cons_succ, List.setIfInBounds_toArray, List.set_cons_zero, List.set_cons_succ])
      refine wpAnyH_take (i := 12) (oi := ({ dst := some 18, op := Go.Op.move (Go.Operand.tmp 1), type := 22, pos := "block.go:25", after := #[{ on := 7, ground := Go.Ground.guard }], guard := some (7, true) } : Go.Oper)) (v := undef) rfl (by kernel_rfl) (by kernel_rfl) (by kernel_rfl) (fun _ _ _ h => h) (Or.inr ⟨by rfl, rfl⟩) (by assumption) ?_
      (try simp only [Act.put, List.getElem_toArray, List.getElem_cons_zero, List.getElem_cons_succ, List.setIfInBounds_toArray, List.set_cons_zero, List.set_cons_succ])
      refine wpAnyH_take (i := 13) (oi := ({ dst := some 19, op := Go.Op.move (Go.Operand.tmp 5), type := 3, pos := "block.go:25", after := #[{ on := 7, ground := Go.Ground.guard }], guard := some (7, true) } : Go.Oper)) (v := undef) rfl (by kernel_rfl) (by kernel_rfl) (by kernel_rfl) (fun _ _ _ h => h) (Or.inr ⟨by rfl, rfl⟩) (by assumption) ?_
      (try simp only [Act.put, List.getElem_toArray, List.getElem_cons_zero, List.getElem_cons_succ, List.setIfInBounds_toArray, List.set_cons_zero, List.set_cons_succ])
      refine wpAnyH_take (i := 14) (oi := ({ dst := some 20, op := Go.Op.indexAddr 22 (Go.Operand.tmp 18) (Go.Operand.tmp 19), type := 0, pos := "block.go:25", after := #[{ on := 12, ground := Go.Ground.data }, { on := 13, ground := Go.Ground.data }, { on := 7, ground := Go.Ground.guard }], guard := some (7, true) } : Go.Oper)) (v := undef) rfl (by kernel_rfl) (by kernel_rfl) (by kernel_rfl) (fun _ _ _ h => h) (Or.inr ⟨by rfl, rfl⟩) (by assumption) ?_
      (try simp only [Act.put, List.getElem_toArray, List.getElem_cons_zero, List.getElem_cons_succ, List.setIfInBounds_toArray, List.set_cons_zero, List.set_cons_succ])
      refine wpAnyH_take (i := 15) (oi := ({ dst := some 21, op := Go.Op.load 5 (Go.Operand.tmp 20), type := 5, pos := "block.go:25", after := #[{ on := 14, ground := Go.Ground.data }, { on := 7, ground := Go.Ground.guard }], guard := some (7, true) } : Go.Oper)) (v := undef) rfl (by kernel_rfl) (by kernel_rfl) (by kernel_rfl) (fun _ _ _ h => h) (Or.inr ⟨by rfl, rfl⟩) (by assumption) ?_
      (try simp only [Act.put, List.getElem_toArray, List.getElem_cons_zero, List.getElem_cons_succ, List.setIfInBounds_toArray, List.set_cons_zero, List.set_cons_succ])
      refine wpAnyH_take (i := 16) (oi := ({ dst := some 22, op := Go.Op.binOp Go.BinOp.eql 5 (Go.Operand.tmp 17) (Go.Operand.tmp 21) 5, type := 4, pos := "block.go:25", after := #[{ on := 11, ground := Go.Ground.data }, { on := 15, ground := Go.Ground.data }, { on := 7, ground := Go.Ground.guard }], guard := some (7, true) } : Go.Oper)) (v := undef) rfl (by kernel_rfl) (by kernel_rfl) (by kernel_rfl) (fun _ _ _ h => h) (Or.inr ⟨by rfl, rfl⟩) (by assumption) ?_
      (try simp only [Act.put, List.getElem_toArray, List.getElem_cons_zero, List.getElem_cons_succ, List.setIfInBounds_toArray, List.set_cons_zero, List.set_cons_succ])
      refine wpAnyH_take (i := 17) (oi := ({ dst := some 23, op := Go.Op.pick (Go.Operand.tmp 13) (Go.Operand.tmp 22) (Go.Operand.const (Go.Value.bool false)), type := 4, pos := "block.go:25", after := #[{ on := 7, ground := Go.Ground.data }, { on := 16, ground := Go.Ground.data }], guard := none } : Go.Oper)) (v := ?v45) rfl (by kernel_rfl) (by kernel_rfl) (by kernel_rfl) (fun _ _ _ h => h) (Or.inl ⟨by rfl, ?hy45⟩) (by assumption) ?rest45
      case hy45 => (intro w hSw; (try dsimp only at hSw); go_simp; (try with_reducible rfl))
      (try simp only [Act.put, List.getElem_toArray, List.getElem_cons_zero, List.getElem_cons_succ, List.setIfInBounds_toArray, List.set_cons_zero, List.set_cons_succ])
      refine wpAnyH_done (by kernel_rfl) ?_ _
      go_wp2
      all_goals
        go_ret
        exact ⟨ret_int HR.out, (by with_reducible (repeat (first | exact Ext.rfl_ _ | assumption | refine Ext.drew ?_ | refine Ext.drewN ?_ _ | refine Ext.alloc ?_ _ | refine Ext.trans ?_ (by assumption))))⟩

open Go.RowKit

set_option maxRecDepth 100000 in
set_option maxHeartbeats 1000000 in
theorem grow_nil (n : Nat) (w : World) (hn : n ≤ B47) :
    Calls Try.prog 73 #[.slice none 0 0, .int .i64 n] w fun e w' => ∃ v', e = .returned v' ∧ OwnB w' w.heap.size v' [] ∧ Ext w w' := by
  obtain ⟨i0, hi, hz0, hz1, hz2⟩ := info_parts Try.info5x
  unfold B47 at hn
  go_enter Try.func73, Try.ntmps73
  by_cases h0 : n = 0
  · subst h0
    go_wp2
    go_ret
    exact ⟨_, rfl, OwnB.nil _ _, Ext.rfl_ _⟩
  · have h1 : (0 : Int) < (n : Int) := by omega
    have hG := grownCap_ge w n 0 5
    have hM := grownCap_le_maxLen w n 0 5 (by unfold maxLen; omega)
    unfold grownCap at hG hM
    have hb : Try.t5.bytes = 1 := rfl
    have hc : Builtin.nextslicecap n 0 = n := by simp [Builtin.nextslicecap] <;> omega
    have hm : n * 1 ≤ 281474976710656 := by omega
    have hm2 : (n : Int) * (1 : Nat) ≤ 281474976710656 := by omega
    go_wp2
    all_goals (try (exfalso; rw [hc] at *; rw [hb] at *; omega))
    go_ret
    refine ⟨_, rfl, ?_, (by with_reducible (repeat (first | exact Ext.rfl_ _ | assumption | refine Ext.drew ?_ | refine Ext.drewN ?_ _ | refine Ext.alloc ?_ _ | refine Ext.trans ?_ (by assumption))))⟩
    obtain ⟨G, hGG⟩ : ∃ G, G = (Question.appendCap n 0 5).cut (w.tape w.drawn (Question.appendCap n 0 5)) := ⟨_, rfl⟩
    rw [← hGG] at hG hM ⊢
    refine ⟨rfl, .inr ⟨w.heap.size, G, _, rfl, Nat.le_refl _, heap_alloc_new w _, Nat.zero_le _, hM, ?_, by simp⟩⟩
    rw [Array.size_append, size_zeroCells, size_zeroCells]
    simp
    omega
set_option maxRecDepth 100000 in
set_option maxHeartbeats 1000000 in
theorem concat_any (A : Option Addr) (n c : Nat) (xs : List Bs) (w : World) (hx : RdBB w A n xs) (hn : n ≤ B40) (hs : xs.flatten.length ≤ B47) :
    Calls Try.prog 48 #[.slice A n c] w fun e w' => ∃ v', e = .returned v' ∧ OwnB w' w.heap.size v' xs.flatten ∧ Ext w w' := by
  have hl := hx.1
  unfold B40 at hn
  have HX := Lib.hid hx
  have HL := Lib.hid hl
  have hs' := hs
  unfold B47 at hs'
  clear hx hl
  go_enter Try.func48, Try.ntmps48
  go_wp2
  go_loop [3, 11] (fun s i => ∃ k : Nat, k ≤ n ∧ i = .int .i64 k ∧ s = .int .i64 (flen xs k)) (fun _ i => n - (intOf i).toNat)
  case atStart => exact ⟨0, Nat.zero_le _, rfl, rfl⟩
  case round =>
    obtain ⟨k, hk, rfl, rfl⟩ := hrel
    by_cases hlt : k < n
    · obtain ⟨b, o, A', n', c', x, rfl, hc, hxk, hr⟩ := HX.out.at_ hlt
      have hfl := flen_succ hxk
      have hle := flen_le xs (k + 1)
      have hxl := hr.1
      have HF := Lib.hid hfl
      have HXL := Lib.hid hxl
      have hb : flen xs k + n' ≤ 140737488351232 := by omega
      clear hfl hxl hle hxk
      go_wp2
      go_round
      case rel => exact ⟨k + 1, by omega, by go_num, by rw [HF.out, HXL.out]; go_num⟩
      case measure => simp [intOf]; omega
    · obtain rfl : k = n := by omega
      have hf : flen xs k = xs.flatten.length := by unfold flen; rw [List.take_of_length_le (by rw [HL.out]; exact Nat.le_refl _)]
      have HF := Lib.hid hf
      have hfs : flen xs k ≤ 140737488351232 := by omega
      clear hf
      go_wp2_with (go_at_call 73; refine (grow_nil (flen xs k) _ (by unfold B47; omega)).mono ?_; rintro e w1 ⟨v1, rfl, h1, hx1⟩)
      have HX1 := Lib.hid (HX.out.ext hx1)
      go_loopw [6, 27] (fun v i wr => ∃ j : Nat, j ≤ k ∧ i = .int .i64 j ∧ OwnB wr w.heap.size v (xs.take j).flatten ∧ Ext w wr) (fun _ i _ => k - (intOf i).toNat)
      case atStart => exact ⟨0, Nat.zero_le _, rfl, h1, hx1⟩
      case round =>
        obtain ⟨j, hj, rfl, hown, hext⟩ := hrel
        by_cases hjk : j < k
        · obtain ⟨b, o, A', n', c', x, rfl, hc, hxk, hr⟩ := (HX.out.ext hext).at_ hjk
          have hfl := flat_succ hxk
          have hle := flen_le xs (j + 1)
          have hxl := hr.1
          have hcat : (xs.take j).flatten.length + x.length ≤ B47 := by
            have : flen xs (j + 1) = (xs.take j).flatten.length + x.length := by unfold flen; rw [hfl, List.length_append]
            omega
          have HFL := Lib.hid hfl
          have HC := Lib.hid hcat
          have hlb := hown.out.lt
          have HR := Lib.hid hr
          clear hfl hle hxl hxk hcat hr
          obtain ⟨y, hy⟩ : ∃ y, y = (xs.take j).flatten := ⟨_, rfl⟩
          have HY := Lib.hid hy
          rw [← hy] at hown
          clear hy
          go_wp2_with (refine wp_app rfl _ _ rfl w.heap.size _ y rfl hown A' n' c' x rfl HR.out (by rw [HY.out]; exact HC.out) (Ext.size hext) ?_; intro v3 w3 h5 h6)
          go_roundw
          case rel => exact ⟨j + 1, by omega, by go_num, by rw [HFL.out, ← HY.out]; exact h5, hext.grown h6 (fun k hk => (hlb k hk).1)⟩
          case measure => simp [intOf]; omega
        · obtain rfl : j = k := by omega
          have hall : (xs.take j).flatten = xs.flatten := by rw [List.take_of_length_le (by rw [HL.out]; exact Nat.le_refl _)]
          rw [hall] at hown
          clear hall
          go_wp2
          go_ret
          exact ⟨_, rfl, hown, hext⟩
end Go.Proofs.Ythfhococglbpoaa
