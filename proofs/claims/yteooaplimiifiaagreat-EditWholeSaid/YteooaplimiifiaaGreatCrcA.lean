/- Contracts of the small functions of frames: may, word, unword, Size; the reference's may, word, length. Conditions: the slices read as bytes. -/
/- Contracts of frame.first and of the function within it. Conditions: the slice reads as bytes. -/
import Derived.Test.YteooaplimiifiaaGreatCrcS
namespace Go.Proofs.YteooaplimiifiaaGreat
set_option linter.unusedSimpArgs false
set_option linter.unusedVariables false
set_option maxRecDepth 100000
open Go.RowKit

theorem un4_bits32 (p0 p1 p2 p3 : UInt8) : bits BinOp.or IntKind.u32 (bits BinOp.or IntKind.u32 (bits BinOp.or IntKind.u32 (p0.toNat % 4294967296 * 16777216 % 4294967296) (p1.toNat % 4294967296 * 65536 % 4294967296)) (p2.toNat % 4294967296 * 256 % 4294967296)) (p3.toNat % 4294967296) = (un4 [p0, p1, p2, p3] : Nat) := by
  have h0 := u8lt p0
  have h1 := u8lt p1
  have h2 := u8lt p2
  have h3 := u8lt p3
  obtain ⟨a, ha⟩ : ∃ a, a = p0.toNat := ⟨_, rfl⟩
  obtain ⟨b, hb⟩ : ∃ a, a = p1.toNat := ⟨_, rfl⟩
  obtain ⟨c, hc⟩ : ∃ a, a = p2.toNat := ⟨_, rfl⟩
  obtain ⟨d, hd⟩ : ∃ a, a = p3.toNat := ⟨_, rfl⟩
  unfold un4
  simp only [← ha, ← hb, ← hc, ← hd] at *
  rw [bits_join .u32 32 (by decide) wraps_u32 24 ((a : Int) % 4294967296 * 16777216 % 4294967296) ((b : Int) % 4294967296 * 65536 % 4294967296) (by omega) (by omega) (by omega) (by omega) (by omega) (by omega)]
  rw [bits_join .u32 32 (by decide) wraps_u32 16 ((a : Int) % 4294967296 * 16777216 % 4294967296 + (b : Int) % 4294967296 * 65536 % 4294967296) ((c : Int) % 4294967296 * 256 % 4294967296) (by omega) (by omega) (by omega) (by omega) (by omega) (by omega)]
  rw [bits_join .u32 32 (by decide) wraps_u32 8 ((a : Int) % 4294967296 * 16777216 % 4294967296 + (b : Int) % 4294967296 * 65536 % 4294967296 + (c : Int) % 4294967296 * 256 % 4294967296) ((d : Int) % 4294967296) (by omega) (by omega) (by omega) (by omega) (by omega) (by omega)]
  omega

set_option maxRecDepth 100000 in
theorem fmay_any (n : Nat) (w : World) : Calls Tryz.prog 54 #[.int .i64 n] w fun e w' => e = .returned (.bool (mayF n)) ∧ w = w' := by
  unfold mayF
  by_cases h1 : (1 : Int) ≤ (n : Int)
  · have hn1 : 1 ≤ n := by omega
    by_cases h2 : (n : Int) ≤ 1048576
    · have hn2 : n ≤ 1048576 := by omega
      go_enter Tryz.func54, Tryz.ntmps54
      go_wp2
      go_ret
      exact ⟨ret_bool (by simp [hn1, hn2]), rfl⟩
    · have hn2 : ¬ n ≤ 1048576 := by omega
      go_enter Tryz.func54, Tryz.ntmps54
      go_wp2
      go_ret
      exact ⟨ret_bool (by simp [hn1, hn2]), rfl⟩
  · have hn1 : ¬ 1 ≤ n := by omega
    go_enter Tryz.func54, Tryz.ntmps54
    go_wp2
    go_ret
    exact ⟨ret_bool (by simp [hn1]), rfl⟩

/-- Size of a payload that may be. -/
theorem fsize_any (n : Nat) (w : World) (h : mayF n = true) : Calls Tryz.prog 38 #[.int .i64 n] w fun e w' => e = .returned (.int .i64 (8 + n : Nat)) ∧ w = w' := by
  have hm := h
  unfold mayF at hm
  simp only [decide_eq_true_eq] at hm
  go_enter Tryz.func38, Tryz.ntmps38
  go_wp2_with fail
  refine (fmay_any n _).mono ?_
  rintro e w1 ⟨rfl, rfl⟩
  rw [h]
  go_wp2
  go_ret
  exact ⟨by congr 2, rfl⟩

theorem w4_top {n : Nat} (hn : n < 4294967296) : (n : Int) / 16777216 % 256 = (n : Int) / 16777216 := by omega

def w4V (n : Nat) : Array Value := #[.int .u8 ((n : Int) / 16777216), .int .u8 ((n : Int) / 65536 % 256), .int .u8 ((n : Int) / 256 % 256), .int .u8 ((n : Int) % 256)]
set_option maxRecDepth 100000 in
set_option maxHeartbeats 1000000 in
theorem fword_any (n : Nat) (w : World) (hn : n < 4294967296) :
    Calls Tryz.prog 55 #[.int .u32 n] w fun e w' => e = .returned (.agg (w4V n)) ∧ Ext w w' := by
  go_enter Tryz.func55, Tryz.ntmps55
  go_wp2
  have hb := heap_alloc_new w (.cells (w4V n) 88)
  have hs : Option.map (fun x => x.size) (Tryz.prog.info? 88) = some (w4V n).size := by kernel_rfl
  refine bodyPost_ret (v := .agg (w4V n)) ?_ rfl ⟨rfl, (by with_reducible (repeat (first | exact Ext.rfl_ _ | assumption | refine Ext.drew ?_ | refine Ext.drewN ?_ _ | refine Ext.alloc ?_ _ | refine Ext.trans ?_ (by assumption))))⟩
  exact results_cell_row rfl _ _ w.heap.size _ (w4V n) _ _ rfl hb Tryz.underlying88 rfl hs

theorem four_cells {w : World} {b o m : Nat} {x : Bs} (hx : Rd w (some ⟨b, o, none⟩) m x) (h4 : 4 ≤ m) : ∃ p0 p1 p2 p3, x.take 4 = [p0, p1, p2, p3] ∧ w.cell? ⟨b, o, none⟩ = some (.int .u8 (p0.toNat : Int)) ∧ w.cell? ⟨b, o + 1, none⟩ = some (.int .u8 (p1.toNat : Int)) ∧ w.cell? ⟨b, o + 2, none⟩ = some (.int .u8 (p2.toNat : Int)) ∧ w.cell? ⟨b, o + 3, none⟩ = some (.int .u8 (p3.toNat : Int)) := by
  obtain ⟨b', o', e, hcell⟩ := hx.at_ (by omega)
  cases e
  have hl := hx.1
  match x, hl with
  | p0 :: p1 :: p2 :: p3 :: r, _ =>
    have h0 := hcell 0 (by simp)
    have h1 := hcell 1 (by simp)
    have h2 := hcell 2 (by simp)
    have h3 := hcell 3 (by simp)
    simp at h0 h1 h2 h3
    exact ⟨p0, p1, p2, p3, rfl, h0, h1, h2, h3⟩
  | [], h => simp at h; omega
  | [_], h => simp at h; omega
  | [_, _], h => simp at h; omega
  | [_, _, _], h => simp at h; omega

set_option maxRecDepth 100000 in
set_option maxHeartbeats 2000000 in
theorem funword_any (b o m c : Nat) (x : Bs) (w : World) (hx : Rd w (some ⟨b, o, none⟩) m x) (h4 : 4 ≤ m) :
    Calls Tryz.prog 85 #[.slice (some ⟨b, o, none⟩) m c] w fun e w' => e = .returned (.int .u32 (un4 (x.take 4))) ∧ Ext w w' := by
  obtain ⟨p0, p1, p2, p3, e4, h0, h1, h2, h3⟩ := four_cells hx h4
  rw [e4]
  have hm0 : (0 : Int) < (m : Int) := by omega
  have hm1 : (1 : Int) < (m : Int) := by omega
  have hm2 : (2 : Int) < (m : Int) := by omega
  have hm3 : (3 : Int) < (m : Int) := by omega
  clear hx e4
  go_enter Tryz.func85, Tryz.ntmps85
  go_wp2
  go_quiet (fail)
  go_wp2
  go_ret
  exact ⟨ret_w (un4_bits32 p0 p1 p2 p3), (by with_reducible (repeat (first | exact Ext.rfl_ _ | assumption | refine Ext.drew ?_ | refine Ext.drewN ?_ _ | refine Ext.alloc ?_ _ | refine Ext.trans ?_ (by assumption))))⟩

theorem Rd.mid {w : World} {b o m : Nat} {x : Bs} (h : Rd w (some ⟨b, o, none⟩) m x) (k n : Nat) (hk : k + n ≤ m) : Rd w (some ⟨b, o + k, none⟩) n ((x.drop k).take n) := by
  have hl := h.1
  refine ⟨by rw [List.length_take, List.length_drop]; omega, fun hn => ⟨b, o + k, rfl, fun j hj => ?_⟩⟩
  obtain ⟨b', o', e, hc⟩ := h.at_ (by omega)
  cases e
  have hj' : k + j < x.length := by rw [List.length_take, List.length_drop] at hj; omega
  have := hc (k + j) hj'
  rw [← Nat.add_assoc] at this
  rw [this]
  simp [List.getElem_take, List.getElem_drop]
theorem Rd.front {w : World} {b o m : Nat} {x : Bs} (h : Rd w (some ⟨b, o, none⟩) m x) (n : Nat) (hk : n ≤ m) : Rd w (some ⟨b, o, none⟩) n (x.take n) := by
  have := h.mid 0 n (by omega)
  simpa using this
theorem Rd.back {w : World} {b o m : Nat} {x : Bs} (h : Rd w (some ⟨b, o, none⟩) m x) (k : Nat) (hk : k ≤ m) : Rd w (some ⟨b, o + k, none⟩) (m - k) (x.drop k) := by
  have := h.mid k (m - k) (by omega)
  rwa [List.take_of_length_le (by rw [List.length_drop, h.1]; exact Nat.le_refl _)] at this

theorem beq_nat (a b : Nat) : ((a : Int) == (b : Int)) = decide (a = b) := by
  by_cases h : a = b
  · simp [h]
  · have : ¬ (a : Int) = (b : Int) := by omega
    simp [h, this]

def wholeF (x : Bs) (n : Nat) : Bool := mayF n && (decide (n + 8 ≤ x.length) && decide (crcB (x.take 4 ++ (x.drop 8).take n) = un4 ((x.drop 4).take 4)))
theorem isF_whole (x : Bs) : isF x = (decide (8 ≤ x.length) && wholeF x (nF x)) := rfl

set_option maxRecDepth 100000 in
set_option maxHeartbeats 4000000 in
theorem first1_any (g b o m c n : Nat) (x : Bs) (w : World) (hx : Rd w (some ⟨b, o, none⟩) m x) (hmc : m ≤ c) (hm : m ≤ B40) (h8 : 8 ≤ m) (hn : n < 4294967296) (hg : w.cell? ⟨g, 0, none⟩ = some (.slice (some ⟨b, o, none⟩) m c)) :
    Calls Tryz.prog 84 #[.int .i64 n, .pointer (some ⟨g, 0, none⟩)] w fun e w' => e = .returned (.bool (wholeF x n)) ∧ Ext w w' := by
  have hxl := hx.1
  have HG := Lib.hid hg
  have HX := Lib.hid hx
  have hmb := hm
  unfold B40 at hm
  by_cases h1 : mayF n = true
  · have H1 := Lib.hid h1
    have hwr : IntKind.i64.wrap ((m : Int) - 8) = (m : Int) - 8 := by rw [IntKind.wrap_i64]; omega
    by_cases h2 : (n : Int) ≤ (m : Int) - 8
    · have hn1 : 1 ≤ n := by
        have := h1
        unfold mayF at this
        simp only [decide_eq_true_eq] at this
        exact this.1
      have hwr2 : IntKind.i64.wrap (8 + (n : Int)) = 8 + (n : Int) := by rw [IntKind.wrap_i64]; omega
      have X4 := Lib.hid (hx.front 4 (by omega))
      have XP := Lib.hid (hx.mid 8 n (by omega))
      have XB := Lib.hid (hx.back 4 (by omega))
      have hc4 : (4 : Int) ≤ (c : Int) := by omega
      have hc8 : 8 + (n : Int) ≤ (c : Int) := by omega
      have h48 : (4 : Int) ≤ (m : Int) := by omega
      have h08 : 0 ≤ 8 + (n : Int) := by omega
      have h88 : (8 : Int) ≤ max (8 + (n : Int)) 0 := by omega
      have hcn8 : ¬ c = 8 := by omega
      have hcn4 : ¬ c = 4 := by omega
      have htn : (8 + (n : Int)).toNat - 8 = n := by omega
      obtain ⟨s, hs⟩ : ∃ s, s = crcB [x.take 4, (x.drop 8).take n].flatten := ⟨_, rfl⟩
      obtain ⟨u, hu⟩ : ∃ u, u = un4 ((x.drop 4).take 4) := ⟨_, rfl⟩
      have hwf : Hid (wholeF x n = decide (s = u)) := Lib.hid (by
        unfold wholeF
        rw [h1, decide_eq_true (by omega : n + 8 ≤ x.length), hs, hu]
        simp)
      have HS := Lib.hid hs
      have HU := Lib.hid hu
      clear hg hx hs hu hxl h1
      go_enter Tryz.func84, Tryz.ntmps84
      go_wp2
      refine wp_region_held_drew (S := (fun w' => w'.cell? ⟨g, 0, none⟩ = some (.slice (some ⟨b, o, none⟩) m c))) (by kernel_rfl) (by (try dsimp only); exact Ext.keeps (show Ext w _ from (by with_reducible (repeat (first | exact Ext.rfl_ _ | assumption | refine Ext.drew ?_ | refine Ext.drewN ?_ _ | refine Ext.alloc ?_ _ | refine Ext.trans ?_ (by assumption))))) _ _ _ HG.out) (fun hHeld => ?_)
      refine wpAnyH_take (i := 0) (oi := ({ dst := some 4, op := .move (.tmp 0), type := 3, pos := "frame.go:39", after := #[], guard := none } : Go.Oper)) (v := ?v1) rfl (by kernel_rfl) (by kernel_rfl) (by kernel_rfl) (fun _ _ _ h => h) (Or.inl ⟨by rfl, ?hy1⟩) (by assumption) ?rest1
      case hy1 => (intro w hSw; (try dsimp only at hSw); go_simp; (try with_reducible rfl))
      (try simp only [Act.put, List.getElem_toArray, List.getElem_cons_zero, List.getElem_cons_succ, List.setIfInBounds_toArray, List.set_cons_zero, List.set_cons_succ])
      refine wpAnyH_ready (rs := [1]) (by kernel_rfl) (by simp) ?_
      refine AllReadyH.cons (o := ({ dst := some 5, op := .call { callee := .value (.func 54), args := #[.tmp 4], argTypes := #[3] }, type := 4, pos := "frame.go:39", after := #[⟨0, .data⟩], guard := none } : Go.Oper)) rfl (fun K hK => ?_) AllReadyH.nil
      go_simp
      (first | (go_at_call 54; refine (fmay_any n _).mono ?_; rintro e w1 ⟨rfl, rfl⟩; rw [H1.out]) | (go_at_call 85; refine (funword_any b (o + 4) (m - 4) (c - 4) _ _ (XB.out.ext (by with_reducible (repeat (first | exact Ext.rfl_ _ | assumption | refine Ext.drew ?_ | refine Ext.drewN ?_ _ | refine Ext.alloc ?_ _ | refine Ext.trans ?_ (by assumption))))) (by clear hmb; omega)).mono ?_; rintro e w2 ⟨rfl, hw2⟩; rw [← HU.out]) | (go_at_call 56; refine (csum_any _ 2 2 [x.take 4, (x.drop 8).take n] _ (by first | exact RdBB.new2 (X4.out.ext (by with_reducible (repeat (first | exact Ext.rfl_ _ | assumption | refine Ext.drew ?_ | refine Ext.drewN ?_ _ | refine Ext.alloc ?_ _ | refine Ext.trans ?_ (by assumption))))) (XP.out.ext (by with_reducible (repeat (first | exact Ext.rfl_ _ | assumption | refine Ext.drew ?_ | refine Ext.drewN ?_ _ | refine Ext.alloc ?_ _ | refine Ext.trans ?_ (by assumption))))) | exact (RdBB.new2 (X4.out.ext (by with_reducible (repeat (first | exact Ext.rfl_ _ | assumption | refine Ext.drew ?_ | refine Ext.drewN ?_ _ | refine Ext.alloc ?_ _ | refine Ext.trans ?_ (by assumption))))) (XP.out.ext (by with_reducible (repeat (first | exact Ext.rfl_ _ | assumption | refine Ext.drew ?_ | refine Ext.drewN ?_ _ | refine Ext.alloc ?_ _ | refine Ext.trans ?_ (by assumption)))))).ext (by assumption)) (by decide) (by intro y hy; simp at hy; rcases hy with rfl | rfl <;> (simp; unfold B47; omega))).mono ?_; rintro e w3 ⟨rfl, hw3⟩; rw [← HS.out]))
      (try (go_wp2_with fail))
      refine hK.out _ _ (by (try dsimp only); exact Ext.keeps (show Ext w _ from (by with_reducible (repeat (first | exact Ext.rfl_ _ | assumption | refine Ext.drew ?_ | refine Ext.drewN ?_ _ | refine Ext.alloc ?_ _ | refine Ext.trans ?_ (by assumption))))) _ _ _ HG.out) (fun hHeld => ?_)
      clear hK K
      (try simp only [Act.put, List.getElem_toArray, List.getElem_cons_zero, List.getElem_cons_succ, List.setIfInBounds_toArray, List.set_cons_zero, List.set_cons_succ])
      refine wpAnyH_take (i := 2) (oi := ({ dst := some 6, op := .move (.tmp 5), type := 4, pos := "frame.go:39", after := #[⟨1, .data⟩, ⟨1, .chain⟩], guard := none } : Go.Oper)) (v := ?v2) rfl (by kernel_rfl) (by kernel_rfl) (by kernel_rfl) (fun _ _ _ h => h) (Or.inl ⟨by rfl, ?hy2⟩) (by assumption) ?rest2
      case hy2 => (intro w hSw; (try dsimp only at hSw); go_simp; (try with_reducible rfl))
      (try simp only [Act.put, List.getElem_toArray, List.getElem_cons_zero, List.getElem_cons_succ, List.setIfInBounds_toArray, List.set_cons_zero, List.set_cons_succ])
      refine wpAnyH_take (i := 3) (oi := ({ dst := some 7, op := .move (.tmp 0), type := 3, pos := "frame.go:39", after := #[⟨2, .guard⟩], guard := some (2, true) } : Go.Oper)) (v := ?v3) rfl (by kernel_rfl) (by kernel_rfl) (by kernel_rfl) (fun _ _ _ h => h) (Or.inl ⟨by rfl, ?hy3⟩) (by assumption) ?rest3
      case hy3 => (intro w hSw; (try dsimp only at hSw); go_simp; (try with_reducible rfl))
      (try simp only [Act.put, List.getElem_toArray, List.getElem_cons_zero, List.getElem_cons_succ, List.setIfInBounds_toArray, List.set_cons_zero, List.set_cons_succ])
      refine wpAnyH_take (i := 4) (oi := ({ dst := some 8, op := .load 35 (.tmp 1), type := 35, pos := "frame.go:39", after := #[⟨2, .guard⟩], guard := some (2, true) } : Go.Oper)) (v := ?v4) rfl (by kernel_rfl) (by kernel_rfl) (by kernel_rfl) (fun _ _ _ h => h) (Or.inl ⟨by rfl, ?hy4⟩) (by assumption) ?rest4
      case hy4 => (intro w hSw; (try dsimp only at hSw); go_simp; (try with_reducible rfl))
      (try simp only [Act.put, List.getElem_toArray, List.getElem_cons_zero, List.getElem_cons_succ, List.setIfInBounds_toArray, List.set_cons_zero, List.set_cons_succ])
      refine wpAnyH_take (i := 5) (oi := ({ dst := some 9, op := .call { callee := .builtin .len, args := #[.tmp 8], argTypes := #[35] }, type := 3, pos := "frame.go:39", after := #[⟨4, .data⟩, ⟨2, .guard⟩], guard := some (2, true) } : Go.Oper)) (v := ?v5) rfl (by kernel_rfl) (by kernel_rfl) (by kernel_rfl) (fun _ _ _ h => h) (Or.inl ⟨by rfl, ?hy5⟩) (by assumption) ?rest5
      case hy5 => (intro w hSw; (try dsimp only at hSw); go_simp; (try with_reducible rfl))
      (try simp only [Act.put, List.getElem_toArray, List.getElem_cons_zero, List.getElem_cons_succ, List.setIfInBounds_toArray, List.set_cons_zero, List.set_cons_succ])
      refine wpAnyH_take (i := 6) (oi := ({ dst := some 10, op := .binOp .sub 3 (.tmp 9) (.const (.int .i64 8)) 3, type := 3, pos := "frame.go:39", after := #[⟨5, .data⟩, ⟨2, .guard⟩], guard := some (2, true) } : Go.Oper)) (v := ?v6) rfl (by kernel_rfl) (by kernel_rfl) (by kernel_rfl) (fun _ _ _ h => h) (Or.inl ⟨by rfl, ?hy6⟩) (by assumption) ?rest6
      case hy6 => (intro w hSw; (try dsimp only at hSw); go_simp; (try with_reducible rfl))
      (try simp only [Act.put, List.getElem_toArray, List.getElem_cons_zero, List.getElem_cons_succ, List.setIfInBounds_toArray, List.set_cons_zero, List.set_cons_succ])
      refine wpAnyH_take (i := 7) (oi := ({ dst := some 11, op := .binOp .leq 3 (.tmp 7) (.tmp 10) 3, type := 4, pos := "frame.go:39", after := #[⟨3, .data⟩, ⟨6, .data⟩, ⟨2, .guard⟩], guard := some (2, true) } : Go.Oper)) (v := ?v7) rfl (by kernel_rfl) (by kernel_rfl) (by kernel_rfl) (fun _ _ _ h => h) (Or.inl ⟨by rfl, ?hy7⟩) (by assumption) ?rest7
      case hy7 => (intro w hSw; (try dsimp only at hSw); go_simp; (try with_reducible rfl))
      (try simp only [Act.put, List.getElem_toArray, List.getElem_cons_zero, List.getElem_cons_succ, List.setIfInBounds_toArray, List.set_cons_zero, List.set_cons_succ])
      refine wpAnyH_take (i := 8) (oi := ({ dst := some 12, op := .pick (.tmp 6) (.tmp 11) (.const (.bool false)), type := 4, pos := "frame.go:39", after := #[⟨2, .data⟩, ⟨7, .data⟩], guard := none } : Go.Oper)) (v := ?v8) rfl (by kernel_rfl) (by kernel_rfl) (by kernel_rfl) (fun _ _ _ h => h) (Or.inl ⟨by rfl, ?hy8⟩) (by assumption) ?rest8
      case hy8 => (intro w hSw; (try dsimp only at hSw); go_simp; (try with_reducible rfl))
      (try simp only [Act.put, List.getElem_toArray, List.getElem_cons_zero, List.getElem_cons_succ, List.setIfInBounds_toArray, List.set_cons_zero, List.set_cons_succ])
      refine wpAnyH_take (i := 9) (oi := ({ dst := some 13, op := .move (.tmp 12), type := 4, pos := "frame.go:39", after := #[⟨8, .data⟩, ⟨2, .chain⟩], guard := none } : Go.Oper)) (v := ?v9) rfl (by kernel_rfl) (by kernel_rfl) (by kernel_rfl) (fun _ _ _ h => h) (Or.inl ⟨by rfl, ?hy9⟩) (by assumption) ?rest9
      case hy9 => (intro w hSw; (try dsimp only at hSw); go_simp; (try with_reducible rfl))
      (try simp only [Act.put, List.getElem_toArray, List.getElem_cons_zero, List.getElem_cons_succ, List.setIfInBounds_toArray, List.set_cons_zero, List.set_cons_succ])
      refine wpAnyH_take (i := 10) (oi := ({ dst := some 14, op := .load 35 (.tmp 1), type := 35, pos := "frame.go:39", after := #[⟨9, .guard⟩], guard := some (9, true) } : Go.Oper)) (v := ?v10) rfl (by kernel_rfl) (by kernel_rfl) (by kernel_rfl) (fun _ _ _ h => h) (Or.inl ⟨by rfl, ?hy10⟩) (by assumption) ?rest10
      case hy10 => (intro w hSw; (try dsimp only at hSw); go_simp; (try with_reducible rfl))
      (try simp only [Act.put, List.getElem_toArray, List.getElem_cons_zero, List.getElem_cons_succ, List.setIfInBounds_toArray, List.set_cons_zero, List.set_cons_succ])
      refine wpAnyH_take (i := 11) (oi := ({ dst := some 15, op := .slice 35 (.tmp 14) none (some (.const (.int .i64 4))) none, type := 35, pos := "frame.go:39", after := #[⟨10, .data⟩, ⟨9, .guard⟩], guard := some (9, true) } : Go.Oper)) (v := ?v11) rfl (by kernel_rfl) (by kernel_rfl) (by kernel_rfl) (fun _ _ _ h => h) (Or.inl ⟨by rfl, ?hy11⟩) (by assumption) ?rest11
      case hy11 => (intro w hSw; (try dsimp only at hSw); go_simp; (try with_reducible rfl))
      (try simp only [Act.put, List.getElem_toArray, List.getElem_cons_zero, List.getElem_cons_succ, List.setIfInBounds_toArray, List.set_cons_zero, List.set_cons_succ])
      refine wpAnyH_take (i := 12) (oi := ({ dst := some 16, op := .load 35 (.tmp 1), type := 35, pos := "frame.go:39", after := #[⟨9, .guard⟩], guard := some (9, true) } : Go.Oper)) (v := ?v12) rfl (by kernel_rfl) (by kernel_rfl) (by kernel_rfl) (fun _ _ _ h => h) (Or.inl ⟨by rfl, ?hy12⟩) (by assumption) ?rest12
      case hy12 => (intro w hSw; (try dsimp only at hSw); go_simp; (try with_reducible rfl))
      (try simp only [Act.put, List.getElem_toArray, List.getElem_cons_zero, List.getElem_cons_succ, List.setIfInBounds_toArray, List.set_cons_zero, List.set_cons_succ])
      refine wpAnyH_take (i := 13) (oi := ({ dst := some 17, op := .move (.tmp 0), type := 3, pos := "frame.go:39", after := #[⟨9, .guard⟩], guard := some (9, true) } : Go.Oper)) (v := ?v13) rfl (by kernel_rfl) (by kernel_rfl) (by kernel_rfl) (fun _ _ _ h => h) (Or.inl ⟨by rfl, ?hy13⟩) (by assumption) ?rest13
      case hy13 => (intro w hSw; (try dsimp only at hSw); go_simp; (try with_reducible rfl))
      (try simp only [Act.put, List.getElem_toArray, List.getElem_cons_zero, List.getElem_cons_succ, List.setIfInBounds_toArray, List.set_cons_zero, List.set_cons_succ])
      refine wpAnyH_take (i := 14) (oi := ({ dst := some 18, op := .binOp .add 3 (.const (.int .i64 8)) (.tmp 17) 3, type := 3, pos := "frame.go:39", after := #[⟨13, .data⟩, ⟨9, .guard⟩], guard := some (9, true) } : Go.Oper)) (v := ?v14) rfl (by kernel_rfl) (by kernel_rfl) (by kernel_rfl) (fun _ _ _ h => h) (Or.inl ⟨by rfl, ?hy14⟩) (by assumption) ?rest14
      case hy14 => (intro w hSw; (try dsimp only at hSw); go_simp; (try with_reducible rfl))
      (try simp only [Act.put, List.getElem_toArray, List.getElem_cons_zero, List.getElem_cons_succ, List.setIfInBounds_toArray, List.set_cons_zero, List.set_cons_succ])
      refine wpAnyH_take (i := 15) (oi := ({ dst := some 19, op := .slice 35 (.tmp 16) (some (.const (.int .i64 8))) (some (.tmp 18)) none, type := 35, pos := "frame.go:39", after := #[⟨12, .data⟩, ⟨14, .data⟩, ⟨9, .guard⟩], guard := some (9, true) } : Go.Oper)) (v := ?v15) rfl (by kernel_rfl) (by kernel_rfl) (by kernel_rfl) (fun _ _ _ h => h) (Or.inl ⟨by rfl, ?hy15⟩) (by assumption) ?rest15
      case hy15 => (intro w hSw; (try dsimp only at hSw); go_simp; (try with_reducible rfl))
      (try simp only [Act.put, List.getElem_toArray, List.getElem_cons_zero, List.getElem_cons_succ, List.setIfInBounds_toArray, List.set_cons_zero, List.set_cons_succ])
      refine wpAnyH_take (i := 18) (oi := ({ dst := some 22, op := .load 35 (.tmp 1), type := 35, pos := "frame.go:39", after := #[⟨9, .guard⟩], guard := some (9, true) } : Go.Oper)) (v := ?v16) rfl (by kernel_rfl) (by kernel_rfl) (by kernel_rfl) (fun _ _ _ h => h) (Or.inl ⟨by rfl, ?hy16⟩) (by assumption) ?rest16
      case hy16 => (intro w hSw; (try dsimp only at hSw); go_simp; (try with_reducible rfl))
      (try simp only [Act.put, List.getElem_toArray, List.getElem_cons_zero, List.getElem_cons_succ, List.setIfInBounds_toArray, List.set_cons_zero, List.set_cons_succ])
      refine wpAnyH_take (i := 19) (oi := ({ dst := some 23, op := .slice 35 (.tmp 22) (some (.const (.int .i64 4))) none none, type := 35, pos := "frame.go:39", after := #[⟨18, .data⟩, ⟨9, .guard⟩], guard := some (9, true) } : Go.Oper)) (v := ?v17) rfl (by kernel_rfl) (by kernel_rfl) (by kernel_rfl) (fun _ _ _ h => h) (Or.inl ⟨by rfl, ?hy17⟩) (by assumption) ?rest17
      case hy17 => (intro w hSw; (try dsimp only at hSw); go_simp; (try with_reducible rfl))
      (try simp only [Act.put, List.getElem_toArray, List.getElem_cons_zero, List.getElem_cons_succ, List.setIfInBounds_toArray, List.set_cons_zero, List.set_cons_succ])
      refine wpAnyH_ready (rs := [16]) (by kernel_rfl) (by simp) ?_
      refine AllReadyH.cons (o := ({ dst := some 20, op := .buildSlice 85 2 #[(0, .tmp 15), (1, .tmp 19)], type := 85, pos := "frame.go:39", after := #[⟨11, .data⟩, ⟨15, .data⟩, ⟨9, .guard⟩], guard := some (9, true) } : Go.Oper)) rfl (fun K hK => ?_) AllReadyH.nil
      go_simp
      refine hK.out _ _ (by (try dsimp only); exact Ext.keeps (show Ext w _ from (by with_reducible (repeat (first | exact Ext.rfl_ _ | assumption | refine Ext.drew ?_ | refine Ext.drewN ?_ _ | refine Ext.alloc ?_ _ | refine Ext.trans ?_ (by assumption))))) _ _ _ HG.out) (fun hHeld => ?_)
      clear hK K
      (try simp only [Act.put, List.getElem_toArray, List.getElem_cons_zero, List.getElem_cons_succ, List.setIfInBounds_toArray, List.set_cons_zero, List.set_cons_succ])
      refine wpAnyH_ready (rs := [17]) (by kernel_rfl) (by simp) ?_
      refine AllReadyH.cons (o := ({ dst := some 21, op := .call { callee := .value (.func 56), args := #[.tmp 20], argTypes := #[85] }, type := 90, pos := "frame.go:39", after := #[⟨16, .data⟩, ⟨9, .chain⟩, ⟨9, .guard⟩], guard := some (9, true) } : Go.Oper)) rfl (fun K hK => ?_) AllReadyH.nil
      go_simp
      (first | (go_at_call 54; refine (fmay_any n _).mono ?_; rintro e w1 ⟨rfl, rfl⟩; rw [H1.out]) | (go_at_call 85; refine (funword_any b (o + 4) (m - 4) (c - 4) _ _ (XB.out.ext (by with_reducible (repeat (first | exact Ext.rfl_ _ | assumption | refine Ext.drew ?_ | refine Ext.drewN ?_ _ | refine Ext.alloc ?_ _ | refine Ext.trans ?_ (by assumption))))) (by clear hmb; omega)).mono ?_; rintro e w2 ⟨rfl, hw2⟩; rw [← HU.out]) | (go_at_call 56; refine (csum_any _ 2 2 [x.take 4, (x.drop 8).take n] _ (by first | exact RdBB.new2 (X4.out.ext (by with_reducible (repeat (first | exact Ext.rfl_ _ | assumption | refine Ext.drew ?_ | refine Ext.drewN ?_ _ | refine Ext.alloc ?_ _ | refine Ext.trans ?_ (by assumption))))) (XP.out.ext (by with_reducible (repeat (first | exact Ext.rfl_ _ | assumption | refine Ext.drew ?_ | refine Ext.drewN ?_ _ | refine Ext.alloc ?_ _ | refine Ext.trans ?_ (by assumption))))) | exact (RdBB.new2 (X4.out.ext (by with_reducible (repeat (first | exact Ext.rfl_ _ | assumption | refine Ext.drew ?_ | refine Ext.drewN ?_ _ | refine Ext.alloc ?_ _ | refine Ext.trans ?_ (by assumption))))) (XP.out.ext (by with_reducible (repeat (first | exact Ext.rfl_ _ | assumption | refine Ext.drew ?_ | refine Ext.drewN ?_ _ | refine Ext.alloc ?_ _ | refine Ext.trans ?_ (by assumption)))))).ext (by assumption)) (by decide) (by intro y hy; simp at hy; rcases hy with rfl | rfl <;> (simp; unfold B47; omega))).mono ?_; rintro e w3 ⟨rfl, hw3⟩; rw [← HS.out]))
      (try (go_wp2_with fail))
      refine hK.out _ _ (by (try dsimp only); exact Ext.keeps (show Ext w _ from (by with_reducible (repeat (first | exact Ext.rfl_ _ | assumption | refine Ext.drew ?_ | refine Ext.drewN ?_ _ | refine Ext.alloc ?_ _ | refine Ext.trans ?_ (by assumption))))) _ _ _ HG.out) (fun hHeld => ?_)
      clear hK K
      (try simp only [Act.put, List.getElem_toArray, List.getElem_cons_zero, List.getElem_cons_succ, List.setIfInBounds_toArray, List.set_cons_zero, List.set_cons_succ])
      refine wpAnyH_ready (rs := [20]) (by kernel_rfl) (by simp) ?_
      refine AllReadyH.cons (o := ({ dst := some 24, op := .call { callee := .value (.func 85), args := #[.tmp 23], argTypes := #[35] }, type := 90, pos := "frame.go:39", after := #[⟨19, .data⟩, ⟨17, .chain⟩, ⟨9, .guard⟩], guard := some (9, true) } : Go.Oper)) rfl (fun K hK => ?_) AllReadyH.nil
      go_simp
      (first | (go_at_call 54; refine (fmay_any n _).mono ?_; rintro e w1 ⟨rfl, rfl⟩; rw [H1.out]) | (go_at_call 85; refine (funword_any b (o + 4) (m - 4) (c - 4) _ _ (XB.out.ext (by with_reducible (repeat (first | exact Ext.rfl_ _ | assumption | refine Ext.drew ?_ | refine Ext.drewN ?_ _ | refine Ext.alloc ?_ _ | refine Ext.trans ?_ (by assumption))))) (by clear hmb; omega)).mono ?_; rintro e w2 ⟨rfl, hw2⟩; rw [← HU.out]) | (go_at_call 56; refine (csum_any _ 2 2 [x.take 4, (x.drop 8).take n] _ (by first | exact RdBB.new2 (X4.out.ext (by with_reducible (repeat (first | exact Ext.rfl_ _ | assumption | refine Ext.drew ?_ | refine Ext.drewN ?_ _ | refine Ext.alloc ?_ _ | refine Ext.trans ?_ (by assumption))))) (XP.out.ext (by with_reducible (repeat (first | exact Ext.rfl_ _ | assumption | refine Ext.drew ?_ | refine Ext.drewN ?_ _ | refine Ext.alloc ?_ _ | refine Ext.trans ?_ (by assumption))))) | exact (RdBB.new2 (X4.out.ext (by with_reducible (repeat (first | exact Ext.rfl_ _ | assumption | refine Ext.drew ?_ | refine Ext.drewN ?_ _ | refine Ext.alloc ?_ _ | refine Ext.trans ?_ (by assumption))))) (XP.out.ext (by with_reducible (repeat (first | exact Ext.rfl_ _ | assumption | refine Ext.drew ?_ | refine Ext.drewN ?_ _ | refine Ext.alloc ?_ _ | refine Ext.trans ?_ (by assumption)))))).ext (by assumption)) (by decide) (by intro y hy; simp at hy; rcases hy with rfl | rfl <;> (simp; unfold B47; omega))).mono ?_; rintro e w3 ⟨rfl, hw3⟩; rw [← HS.out]))
      (try (go_wp2_with fail))
      refine hK.out _ _ (by (try dsimp only); exact Ext.keeps (show Ext w _ from (by with_reducible (repeat (first | exact Ext.rfl_ _ | assumption | refine Ext.drew ?_ | refine Ext.drewN ?_ _ | refine Ext.alloc ?_ _ | refine Ext.trans ?_ (by assumption))))) _ _ _ HG.out) (fun hHeld => ?_)
      clear hK K
      (try simp only [Act.put, List.getElem_toArray, List.getElem_cons_zero, List.getElem_cons_succ, List.setIfInBounds_toArray, List.set_cons_zero, List.set_cons_succ])
      refine wpAnyH_take (i := 21) (oi := ({ dst := some 25, op := .binOp .eql 90 (.tmp 21) (.tmp 24) 90, type := 4, pos := "frame.go:39", after := #[⟨17, .data⟩, ⟨20, .data⟩, ⟨9, .guard⟩], guard := some (9, true) } : Go.Oper)) (v := ?v18) rfl (by kernel_rfl) (by kernel_rfl) (by kernel_rfl) (fun _ _ _ h => h) (Or.inl ⟨by rfl, ?hy18⟩) (by assumption) ?rest18
      case hy18 => (intro w hSw; (try dsimp only at hSw); go_simp; (try with_reducible rfl))
      (try simp only [Act.put, List.getElem_toArray, List.getElem_cons_zero, List.getElem_cons_succ, List.setIfInBounds_toArray, List.set_cons_zero, List.set_cons_succ])
      refine wpAnyH_take (i := 22) (oi := ({ dst := some 26, op := .pick (.tmp 13) (.tmp 25) (.const (.bool false)), type := 4, pos := "frame.go:39", after := #[⟨9, .data⟩, ⟨21, .data⟩], guard := none } : Go.Oper)) (v := ?v19) rfl (by kernel_rfl) (by kernel_rfl) (by kernel_rfl) (fun _ _ _ h => h) (Or.inl ⟨by rfl, ?hy19⟩) (by assumption) ?rest19
      case hy19 => (intro w hSw; (try dsimp only at hSw); go_simp; (try with_reducible rfl))
      (try simp only [Act.put, List.getElem_toArray, List.getElem_cons_zero, List.getElem_cons_succ, List.setIfInBounds_toArray, List.set_cons_zero, List.set_cons_succ])
      refine wpAnyH_take (i := 23) (oi := ({ dst := some 3, op := .assign (.tmp 26), type := 4, pos := "frame.go:39", after := #[⟨22, .data⟩, ⟨20, .chain⟩, ⟨0, .phase⟩, ⟨1, .phase⟩, ⟨2, .phase⟩, ⟨3, .phase⟩, ⟨4, .phase⟩, ⟨5, .phase⟩, ⟨6, .phase⟩, ⟨7, .phase⟩, ⟨8, .phase⟩, ⟨9, .phase⟩, ⟨10, .phase⟩, ⟨11, .phase⟩, ⟨12, .phase⟩, ⟨13, .phase⟩, ⟨14, .phase⟩, ⟨15, .phase⟩, ⟨16, .phase⟩, ⟨17, .phase⟩, ⟨18, .phase⟩, ⟨19, .phase⟩, ⟨20, .phase⟩, ⟨21, .phase⟩, ⟨22, .phase⟩], guard := none } : Go.Oper)) (v := ?v20) rfl (by kernel_rfl) (by kernel_rfl) (by kernel_rfl) (fun _ _ _ h => h) (Or.inl ⟨by rfl, ?hy20⟩) (by assumption) ?rest20
      case hy20 => (intro w hSw; (try dsimp only at hSw); go_simp; (try with_reducible rfl))
      (try simp only [Act.put, List.getElem_toArray, List.getElem_cons_zero, List.getElem_cons_succ, List.setIfInBounds_toArray, List.set_cons_zero, List.set_cons_succ])
      refine wpAnyH_done (by kernel_rfl) ?_ _
      all_goals
        go_wp2
        go_ret
        exact ⟨ret_bool (by rw [hwf.out]; exact beq_nat s u), (by with_reducible (repeat (first | exact Ext.rfl_ _ | assumption | refine Ext.drew ?_ | refine Ext.drewN ?_ _ | refine Ext.alloc ?_ _ | refine Ext.trans ?_ (by assumption))))⟩
    · have h2f : decide ((n : Int) ≤ (m : Int) - 8) = false := decide_eq_false h2
      have hwf : Hid (wholeF x n = false) := Lib.hid (by
        unfold wholeF
        rw [decide_eq_false (by omega : ¬ n + 8 ≤ x.length)]
        simp)
      clear hg hx hxl h1
      go_enter Tryz.func84, Tryz.ntmps84
      go_wp2
      refine wp_region_held_drew (S := (fun w' => w'.cell? ⟨g, 0, none⟩ = some (.slice (some ⟨b, o, none⟩) m c))) (by kernel_rfl) (by (try dsimp only); exact Ext.keeps (show Ext w _ from (by with_reducible (repeat (first | exact Ext.rfl_ _ | assumption | refine Ext.drew ?_ | refine Ext.drewN ?_ _ | refine Ext.alloc ?_ _ | refine Ext.trans ?_ (by assumption))))) _ _ _ HG.out) (fun hHeld => ?_)
      refine wpAnyH_take (i := 0) (oi := ({ dst := some 4, op := .move (.tmp 0), type := 3, pos := "frame.go:39", after := #[], guard := none } : Go.Oper)) (v := ?v21) rfl (by kernel_rfl) (by kernel_rfl) (by kernel_rfl) (fun _ _ _ h => h) (Or.inl ⟨by rfl, ?hy21⟩) (by assumption) ?rest21
      case hy21 => (intro w hSw; (try dsimp only at hSw); go_simp; (try with_reducible rfl))
      (try simp only [Act.put, List.getElem_toArray, List.getElem_cons_zero, List.getElem_cons_succ, List.setIfInBounds_toArray, List.set_cons_zero, List.set_cons_succ])
      refine wpAnyH_ready (rs := [1]) (by kernel_rfl) (by simp) ?_
      refine AllReadyH.cons (o := ({ dst := some 5, op := .call { callee := .value (.func 54), args := #[.tmp 4], argTypes := #[3] }, type := 4, pos := "frame.go:39", after := #[⟨0, .data⟩], guard := none } : Go.Oper)) rfl (fun K hK => ?_) AllReadyH.nil
      go_simp
      (go_at_call 54; refine (fmay_any n _).mono ?_; rintro e w1 ⟨rfl, rfl⟩; rw [H1.out])
      (try (go_wp2_with fail))
      refine hK.out _ _ (by (try dsimp only); exact Ext.keeps (show Ext w _ from (by with_reducible (repeat (first | exact Ext.rfl_ _ | assumption | refine Ext.drew ?_ | refine Ext.drewN ?_ _ | refine Ext.alloc ?_ _ | refine Ext.trans ?_ (by assumption))))) _ _ _ HG.out) (fun hHeld => ?_)
      clear hK K
      (try simp only [Act.put, List.getElem_toArray, List.getElem_cons_zero, List.getElem_cons_succ, List.setIfInBounds_toArray, List.set_cons_zero, List.set_cons_succ])
      refine wpAnyH_take (i := 2) (oi := ({ dst := some 6, op := .move (.tmp 5), type := 4, pos := "frame.go:39", after := #[⟨1, .data⟩, ⟨1, .chain⟩], guard := none } : Go.Oper)) (v := ?v22) rfl (by kernel_rfl) (by kernel_rfl) (by kernel_rfl) (fun _ _ _ h => h) (Or.inl ⟨by rfl, ?hy22⟩) (by assumption) ?rest22
      case hy22 => (intro w hSw; (try dsimp only at hSw); go_simp; (try with_reducible rfl))
      (try simp only [Act.put, List.getElem_toArray, List.getElem_cons_zero, List.getElem_cons_succ, List.setIfInBounds_toArray, List.set_cons_zero, List.set_cons_succ])
      refine wpAnyH_take (i := 3) (oi := ({ dst := some 7, op := .move (.tmp 0), type := 3, pos := "frame.go:39", after := #[⟨2, .guard⟩], guard := some (2, true) } : Go.Oper)) (v := ?v23) rfl (by kernel_rfl) (by kernel_rfl) (by kernel_rfl) (fun _ _ _ h => h) (Or.inl ⟨by rfl, ?hy23⟩) (by assumption) ?rest23
      case hy23 => (intro w hSw; (try dsimp only at hSw); go_simp; (try with_reducible rfl))
      (try simp only [Act.put, List.getElem_toArray, List.getElem_cons_zero, List.getElem_cons_succ, List.setIfInBounds_toArray, List.set_cons_zero, List.set_cons_succ])
      refine wpAnyH_take (i := 4) (oi := ({ dst := some 8, op := .load 35 (.tmp 1), type := 35, pos := "frame.go:39", after := #[⟨2, .guard⟩], guard := some (2, true) } : Go.Oper)) (v := ?v24) rfl (by kernel_rfl) (by kernel_rfl) (by kernel_rfl) (fun _ _ _ h => h) (Or.inl ⟨by rfl, ?hy24⟩) (by assumption) ?rest24
      case hy24 => (intro w hSw; (try dsimp only at hSw); go_simp; (try with_reducible rfl))
      (try simp only [Act.put, List.getElem_toArray, List.getElem_cons_zero, List.getElem_cons_succ, List.setIfInBounds_toArray, List.set_cons_zero, List.set_cons_succ])
      refine wpAnyH_take (i := 5) (oi := ({ dst := some 9, op := .call { callee := .builtin .len, args := #[.tmp 8], argTypes := #[35] }, type := 3, pos := "frame.go:39", after := #[⟨4, .data⟩, ⟨2, .guard⟩], guard := some (2, true) } : Go.Oper)) (v := ?v25) rfl (by kernel_rfl) (by kernel_rfl) (by kernel_rfl) (fun _ _ _ h => h) (Or.inl ⟨by rfl, ?hy25⟩) (by assumption) ?rest25
      case hy25 => (intro w hSw; (try dsimp only at hSw); go_simp; (try with_reducible rfl))
      (try simp only [Act.put, List.getElem_toArray, List.getElem_cons_zero, List.getElem_cons_succ, List.setIfInBounds_toArray, List.set_cons_zero, List.set_cons_succ])
      refine wpAnyH_take (i := 6) (oi := ({ dst := some 10, op := .binOp .sub 3 (.tmp 9) (.const (.int .i64 8)) 3, type := 3, pos := "frame.go:39", after := #[⟨5, .data⟩, ⟨2, .guard⟩], guard := some (2, true) } : Go.Oper)) (v := ?v26) rfl (by kernel_rfl) (by kernel_rfl) (by kernel_rfl) (fun _ _ _ h => h) (Or.inl ⟨by rfl, ?hy26⟩) (by assumption) ?rest26
      case hy26 => (intro w hSw; (try dsimp only at hSw); go_simp; (try with_reducible rfl))
      (try simp only [Act.put, List.getElem_toArray, List.getElem_cons_zero, List.getElem_cons_succ, List.setIfInBounds_toArray, List.set_cons_zero, List.set_cons_succ])
      refine wpAnyH_take (i := 7) (oi := ({ dst := some 11, op := .binOp .leq 3 (.tmp 7) (.tmp 10) 3, type := 4, pos := "frame.go:39", after := #[⟨3, .data⟩, ⟨6, .data⟩, ⟨2, .guard⟩], guard := some (2, true) } : Go.Oper)) (v := ?v27) rfl (by kernel_rfl) (by kernel_rfl) (by kernel_rfl) (fun _ _ _ h => h) (Or.inl ⟨by rfl, ?hy27⟩) (by assumption) ?rest27
      case hy27 => (intro w hSw; (try dsimp only at hSw); go_simp; (try with_reducible rfl))
      (try simp only [Act.put, List.getElem_toArray, List.getElem_cons_zero, List.getElem_cons_succ, List.setIfInBounds_toArray, List.set_cons_zero, List.set_cons_succ])
      refine wpAnyH_take (i := 8) (oi := ({ dst := some 12, op := .pick (.tmp 6) (.tmp 11) (.const (.bool false)), type := 4, pos := "frame.go:39", after := #[⟨2, .data⟩, ⟨7, .data⟩], guard := none } : Go.Oper)) (v := ?v28) rfl (by kernel_rfl) (by kernel_rfl) (by kernel_rfl) (fun _ _ _ h => h) (Or.inl ⟨by rfl, ?hy28⟩) (by assumption) ?rest28
      case hy28 => (intro w hSw; (try dsimp only at hSw); go_simp; (try with_reducible rfl))
      (try simp only [Act.put, List.getElem_toArray, List.getElem_cons_zero, List.getElem_cons_succ, List.setIfInBounds_toArray, List.set_cons_zero, List.set_cons_succ])
      refine wpAnyH_take (i := 9) (oi := ({ dst := some 13, op := .move (.tmp 12), type := 4, pos := "frame.go:39", after := #[⟨8, .data⟩, ⟨2, .chain⟩], guard := none } : Go.Oper)) (v := ?v29) rfl (by kernel_rfl) (by kernel_rfl) (by kernel_rfl) (fun _ _ _ h => h) (Or.inl ⟨by rfl, ?hy29⟩) (by assumption) ?rest29
      case hy29 => (intro w hSw; (try dsimp only at hSw); go_simp; (try with_reducible rfl))
      (try simp only [Act.put, List.getElem_toArray, List.getElem_cons_zero, List.getElem_cons_succ, List.setIfInBounds_toArray, List.set_cons_zero, List.set_cons_succ])
      refine wpAnyH_take (i := 10) (oi := ({ dst := some 14, op := .load 35 (.tmp 1), type := 35, pos := "frame.go:39", after := #[⟨9, .guard⟩], guard := some (9, true) } : Go.Oper)) (v := undef) rfl (by kernel_rfl) (by kernel_rfl) (by kernel_rfl) (fun _ _ _ h => h) (Or.inr ⟨by rfl, rfl⟩) (by assumption) ?_
      (try simp only [Act.put, List.getElem_toArray, List.getElem_cons_zero, List.getElem_cons_succ, List.setIfInBounds_toArray, List.set_cons_zero, List.set_cons_succ])
      refine wpAnyH_take (i := 11) (oi := ({ dst := some 15, op := .slice 35 (.tmp 14) none (some (.const (.int .i64 4))) none, type := 35, pos := "frame.go:39", after := #[⟨10, .data⟩, ⟨9, .guard⟩], guard := some (9, true) } : Go.Oper)) (v := undef) rfl (by kernel_rfl) (by kernel_rfl) (by kernel_rfl) (fun _ _ _ h => h) (Or.inr ⟨by rfl, rfl⟩) (by assumption) ?_
      (try simp only [Act.put, List.getElem_toArray, List.getElem_cons_zero, List.getElem_cons_succ, List.setIfInBounds_toArray, List.set_cons_zero, List.set_cons_succ])
      refine wpAnyH_take (i := 12) (oi := ({ dst := some 16, op := .load 35 (.tmp 1), type := 35, pos := "frame.go:39", after := #[⟨9, .guard⟩], guard := some (9, true) } : Go.Oper)) (v := undef) rfl (by kernel_rfl) (by kernel_rfl) (by kernel_rfl) (fun _ _ _ h => h) (Or.inr ⟨by rfl, rfl⟩) (by assumption) ?_
      (try simp only [Act.put, List.getElem_toArray, List.getElem_cons_zero, List.getElem_cons_succ, List.setIfInBounds_toArray, List.set_cons_zero, List.set_cons_succ])
      refine wpAnyH_take (i := 13) (oi := ({ dst := some 17, op := .move (.tmp 0), type := 3, pos := "frame.go:39", after := #[⟨9, .guard⟩], guard := some (9, true) } : Go.Oper)) (v := undef) rfl (by kernel_rfl) (by kernel_rfl) (by kernel_rfl) (fun _ _ _ h => h) (Or.inr ⟨by rfl, rfl⟩) (by assumption) ?_
      (try simp only [Act.put, List.getElem_toArray, List.getElem_cons_zero, List.getElem_cons_succ, List.setIfInBounds_toArray, List.set_cons_zero, List.set_cons_succ])
      refine wpAnyH_take (i := 14) (oi := ({ dst := some 18, op := .binOp .add 3 (.const (.int .i64 8)) (.tmp 17) 3, type := 3, pos := "frame.go:39", after := #[⟨13, .data⟩, ⟨9, .guard⟩], guard := some (9, true) } : Go.Oper)) (v := undef) rfl (by kernel_rfl) (by kernel_rfl) (by kernel_rfl) (fun _ _ _ h => h) (Or.inr ⟨by rfl, rfl⟩) (by assumption) ?_
      (try simp only [Act.put, List.getElem_toArray, List.getElem_cons_zero, List.getElem_cons_succ, List.setIfInBounds_toArray, List.set_cons_zero, List.set_cons_succ])
      refine wpAnyH_take (i := 15) (oi := ({ dst := some 19, op := .slice 35 (.tmp 16) (some (.const (.int .i64 8))) (some (.tmp 18)) none, type := 35, pos := "frame.go:39", after := #[⟨12, .data⟩, ⟨14, .data⟩, ⟨9, .guard⟩], guard := some (9, true) } : Go.Oper)) (v := undef) rfl (by kernel_rfl) (by kernel_rfl) (by kernel_rfl) (fun _ _ _ h => h) (Or.inr ⟨by rfl, rfl⟩) (by assumption) ?_
      (try simp only [Act.put, List.getElem_toArray, List.getElem_cons_zero, List.getElem_cons_succ, List.setIfInBounds_toArray, List.set_cons_zero, List.set_cons_succ])
      refine wpAnyH_take (i := 16) (oi := ({ dst := some 20, op := .buildSlice 85 2 #[(0, .tmp 15), (1, .tmp 19)], type := 85, pos := "frame.go:39", after := #[⟨11, .data⟩, ⟨15, .data⟩, ⟨9, .guard⟩], guard := some (9, true) } : Go.Oper)) (v := undef) rfl (by kernel_rfl) (by kernel_rfl) (by kernel_rfl) (fun _ _ _ h => h) (Or.inr ⟨by rfl, rfl⟩) (by assumption) ?_
      (try simp only [Act.put, List.getElem_toArray, List.getElem_cons_zero, List.getElem_cons_succ, List.setIfInBounds_toArray, List.set_cons_zero, List.set_cons_succ])
      refine wpAnyH_take (i := 17) (oi := ({ dst := some 21, op := .call { callee := .value (.func 56), args := #[.tmp 20], argTypes := #[85] }, type := 90, pos := "frame.go:39", after := #[⟨16, .data⟩, ⟨9, .chain⟩, ⟨9, .guard⟩], guard := some (9, true) } : Go.Oper)) (v := undef) rfl (by kernel_rfl) (by kernel_rfl) (by kernel_rfl) (fun _ _ _ h => h) (Or.inr ⟨by rfl, rfl⟩) (by assumption) ?_
      (try simp only [Act.put, List.getElem_toArray, List.getElem_cons_zero, List.getElem_cons_succ, List.setIfInBounds_toArray, List.set_cons_zero, List.set_cons_succ])
      refine wpAnyH_take (i := 18) (oi := ({ dst := some 22, op := .load 35 (.tmp 1), type := 35, pos := "frame.go:39", after := #[⟨9, .guard⟩], guard := some (9, true) } : Go.Oper)) (v := undef) rfl (by kernel_rfl) (by kernel_rfl) (by kernel_rfl) (fun _ _ _ h => h) (Or.inr ⟨by rfl, rfl⟩) (by assumption) ?_
      (try simp only [Act.put, List.getElem_toArray, List.getElem_cons_zero, List.getElem_cons_succ, List.setIfInBounds_toArray, List.set_cons_zero, List.set_cons_succ])
      refine wpAnyH_take (i := 19) (oi := ({ dst := some 23, op := .slice 35 (.tmp 22) (some (.const (.int .i64 4))) none none, type := 35, pos := "frame.go:39", after := #[⟨18, .data⟩, ⟨9, .guard⟩], guard := some (9, true) } : Go.Oper)) (v := undef) rfl (by kernel_rfl) (by kernel_rfl) (by kernel_rfl) (fun _ _ _ h => h) (Or.inr ⟨by rfl, rfl⟩) (by assumption) ?_
      (try simp only [Act.put, List.getElem_toArray, List.getElem_cons_zero, List.getElem_cons_succ, List.setIfInBounds_toArray, List.set_cons_zero, List.set_cons_succ])
      refine wpAnyH_take (i := 20) (oi := ({ dst := some 24, op := .call { callee := .value (.func 85), args := #[.tmp 23], argTypes := #[35] }, type := 90, pos := "frame.go:39", after := #[⟨19, .data⟩, ⟨17, .chain⟩, ⟨9, .guard⟩], guard := some (9, true) } : Go.Oper)) (v := undef) rfl (by kernel_rfl) (by kernel_rfl) (by kernel_rfl) (fun _ _ _ h => h) (Or.inr ⟨by rfl, rfl⟩) (by assumption) ?_
      (try simp only [Act.put, List.getElem_toArray, List.getElem_cons_zero, List.getElem_cons_succ, List.setIfInBounds_toArray, List.set_cons_zero, List.set_cons_succ])
      refine wpAnyH_take (i := 21) (oi := ({ dst := some 25, op := .binOp .eql 90 (.tmp 21) (.tmp 24) 90, type := 4, pos := "frame.go:39", after := #[⟨17, .data⟩, ⟨20, .data⟩, ⟨9, .guard⟩], guard := some (9, true) } : Go.Oper)) (v := undef) rfl (by kernel_rfl) (by kernel_rfl) (by kernel_rfl) (fun _ _ _ h => h) (Or.inr ⟨by rfl, rfl⟩) (by assumption) ?_
      (try simp only [Act.put, List.getElem_toArray, List.getElem_cons_zero, List.getElem_cons_succ, List.setIfInBounds_toArray, List.set_cons_zero, List.set_cons_succ])
      refine wpAnyH_take (i := 22) (oi := ({ dst := some 26, op := .pick (.tmp 13) (.tmp 25) (.const (.bool false)), type := 4, pos := "frame.go:39", after := #[⟨9, .data⟩, ⟨21, .data⟩], guard := none } : Go.Oper)) (v := ?v30) rfl (by kernel_rfl) (by kernel_rfl) (by kernel_rfl) (fun _ _ _ h => h) (Or.inl ⟨by rfl, ?hy30⟩) (by assumption) ?rest30
      case hy30 => (intro w hSw; (try dsimp only at hSw); go_simp; (try with_reducible rfl))
      (try simp only [Act.put, List.getElem_toArray, List.getElem_cons_zero, List.getElem_cons_succ, List.setIfInBounds_toArray, List.set_cons_zero, List.set_cons_succ])
      refine wpAnyH_take (i := 23) (oi := ({ dst := some 3, op := .assign (.tmp 26), type := 4, pos := "frame.go:39", after := #[⟨22, .data⟩, ⟨20, .chain⟩, ⟨0, .phase⟩, ⟨1, .phase⟩, ⟨2, .phase⟩, ⟨3, .phase⟩, ⟨4, .phase⟩, ⟨5, .phase⟩, ⟨6, .phase⟩, ⟨7, .phase⟩, ⟨8, .phase⟩, ⟨9, .phase⟩, ⟨10, .phase⟩, ⟨11, .phase⟩, ⟨12, .phase⟩, ⟨13, .phase⟩, ⟨14, .phase⟩, ⟨15, .phase⟩, ⟨16, .phase⟩, ⟨17, .phase⟩, ⟨18, .phase⟩, ⟨19, .phase⟩, ⟨20, .phase⟩, ⟨21, .phase⟩, ⟨22, .phase⟩], guard := none } : Go.Oper)) (v := ?v31) rfl (by kernel_rfl) (by kernel_rfl) (by kernel_rfl) (fun _ _ _ h => h) (Or.inl ⟨by rfl, ?hy31⟩) (by assumption) ?rest31
      case hy31 => (intro w hSw; (try dsimp only at hSw); go_simp; (try with_reducible rfl))
      (try simp only [Act.put, List.getElem_toArray, List.getElem_cons_zero, List.getElem_cons_succ, List.setIfInBounds_toArray, List.set_cons_zero, List.set_cons_succ])
      refine wpAnyH_done (by kernel_rfl) ?_ _
      go_wp2
      go_ret
      exact ⟨ret_bool hwf.out.symm, (by with_reducible (repeat (first | exact Ext.rfl_ _ | assumption | refine Ext.drew ?_ | refine Ext.drewN ?_ _ | refine Ext.alloc ?_ _ | refine Ext.trans ?_ (by assumption))))⟩
  · have h1f : mayF n = false := by simpa using h1
    have hwf : Hid (wholeF x n = false) := Lib.hid (by
      unfold wholeF
      rw [h1f]
      simp)
    have H1 := Lib.hid h1f
    clear hg hx hxl h1 h1f
    go_enter Tryz.func84, Tryz.ntmps84
    go_wp2
    refine wp_region_held_drew (S := (fun w' => w'.cell? ⟨g, 0, none⟩ = some (.slice (some ⟨b, o, none⟩) m c))) (by kernel_rfl) (by (try dsimp only); exact Ext.keeps (show Ext w _ from (by with_reducible (repeat (first | exact Ext.rfl_ _ | assumption | refine Ext.drew ?_ | refine Ext.drewN ?_ _ | refine Ext.alloc ?_ _ | refine Ext.trans ?_ (by assumption))))) _ _ _ HG.out) (fun hHeld => ?_)
    refine wpAnyH_take (i := 0) (oi := ({ dst := some 4, op := .move (.tmp 0), type := 3, pos := "frame.go:39", after := #[], guard := none } : Go.Oper)) (v := ?v32) rfl (by kernel_rfl) (by kernel_rfl) (by kernel_rfl) (fun _ _ _ h => h) (Or.inl ⟨by rfl, ?hy32⟩) (by assumption) ?rest32
    case hy32 => (intro w hSw; (try dsimp only at hSw); go_simp; (try with_reducible rfl))
    (try simp only [Act.put, List.getElem_toArray, List.getElem_cons_zero, List.getElem_cons_succ, List.setIfInBounds_toArray, List.set_cons_zero, List.set_cons_succ])
    refine wpAnyH_ready (rs := [1]) (by kernel_rfl) (by simp) ?_
    refine AllReadyH.cons (o := ({ dst := some 5, op := .call { callee := .value (.func 54), args := #[.tmp 4], argTypes := #[3] }, type := 4, pos := "frame.go:39", after := #[⟨0, .data⟩], guard := none } : Go.Oper)) rfl (fun K hK => ?_) AllReadyH.nil
    go_simp
    (go_at_call 54; refine (fmay_any n _).mono ?_; rintro e w1 ⟨rfl, rfl⟩; rw [H1.out])
    (try (go_wp2_with fail))
    refine hK.out _ _ (by (try dsimp only); exact Ext.keeps (show Ext w _ from (by with_reducible (repeat (first | exact Ext.rfl_ _ | assumption | refine Ext.drew ?_ | refine Ext.drewN ?_ _ | refine Ext.alloc ?_ _ | refine Ext.trans ?_ (by assumption))))) _ _ _ HG.out) (fun hHeld => ?_)
    clear hK K
    (try simp only [Act.put, List.getElem_toArray, List.getElem_cons_zero, List.getElem_cons_succ, List.setIfInBounds_toArray, List.set_cons_zero, List.set_cons_succ])
    refine wpAnyH_take (i := 2) (oi := ({ dst := some 6, op := .move (.tmp 5), type := 4, pos := "frame.go:39", after := #[⟨1, .data⟩, ⟨1, .chain⟩], guard := none } : Go.Oper)) (v := ?v33) rfl (by kernel_rfl) (by kernel_rfl) (by kernel_rfl) (fun _ _ _ h => h) (Or.inl ⟨by rfl, ?hy33⟩) (by assumption) ?rest33
    case hy33 => (intro w hSw; (try dsimp only at hSw); go_simp; (try with_reducible rfl))
    (try simp only [Act.put, List.getElem_toArray, List.getElem_cons_zero, List.getElem_cons_succ, List.setIfInBounds_toArray, List.set_cons_zero, List.set_cons_succ])
    refine wpAnyH_take (i := 3) (oi := ({ dst := some 7, op := .move (.tmp 0), type := 3, pos := "frame.go:39", after := #[⟨2, .guard⟩], guard := some (2, true) } : Go.Oper)) (v := undef) rfl (by kernel_rfl) (by kernel_rfl) (by kernel_rfl) (fun _ _ _ h => h) (Or.inr ⟨by rfl, rfl⟩) (by assumption) ?_
    (try simp only [Act.put, List.getElem_toArray, List.getElem_cons_zero, List.getElem_cons_succ, List.setIfInBounds_toArray, List.set_cons_zero, List.set_cons_succ])
    refine wpAnyH_take (i := 4) (oi := ({ dst := some 8, op := .load 35 (.tmp 1), type := 35, pos := "frame.go:39", after := #[⟨2, .guard⟩], guard := some (2, true) } : Go.Oper)) (v := undef) rfl (by kernel_rfl) (by kernel_rfl) (by kernel_rfl) (fun _ _ _ h => h) (Or.inr ⟨by rfl, rfl⟩) (by assumption) ?_
    (try simp only [Act.put, List.getElem_toArray, List.getElem_cons_zero, List.getElem_cons_succ, List.setIfInBounds_toArray, List.set_cons_zero, List.set_cons_succ])
    refine wpAnyH_take (i := 5) (oi := ({ dst := some 9, op := .call { callee := .builtin .len, args := #[.tmp 8], argTypes := #[35] }, type := 3, pos := "frame.go:39", after := #[⟨4, .data⟩, ⟨2, .guard⟩], guard := some (2, true) } : Go.Oper)) (v := undef) rfl (by kernel_rfl) (by kernel_rfl) (by kernel_rfl) (fun _ _ _ h => h) (Or.inr ⟨by rfl, rfl⟩) (by assumption) ?_
    (try simp only [Act.put, List.getElem_toArray, List.getElem_cons_zero, List.getElem_cons_succ, List.setIfInBounds_toArray, List.set_cons_zero, List.set_cons_succ])
    refine wpAnyH_take (i := 6) (oi := ({ dst := some 10, op := .binOp .sub 3 (.tmp 9) (.const (.int .i64 8)) 3, type := 3, pos := "frame.go:39", after := #[⟨5, .data⟩, ⟨2, .guard⟩], guard := some (2, true) } : Go.Oper)) (v := undef) rfl (by kernel_rfl) (by kernel_rfl) (by kernel_rfl) (fun _ _ _ h => h) (Or.inr ⟨by rfl, rfl⟩) (by assumption) ?_
    (try simp only [Act.put, List.getElem_toArray, List.getElem_cons_zero, List.getElem_cons_succ, List.setIfInBounds_toArray, List.set_cons_zero, List.set_cons_succ])
    refine wpAnyH_take (i := 7) (oi := ({ dst := some 11, op := .binOp .leq 3 (.tmp 7) (.tmp 10) 3, type := 4, pos := "frame.go:39", after := #[⟨3, .data⟩, ⟨6, .data⟩, ⟨2, .guard⟩], guard := some (2, true) } : Go.Oper)) (v := undef) rfl (by kernel_rfl) (by kernel_rfl) (by kernel_rfl) (fun _ _ _ h => h) (Or.inr ⟨by rfl, rfl⟩) (by assumption) ?_
    (try simp only [Act.put, List.getElem_toArray, List.getElem_cons_zero, List.getElem_cons_succ, List.setIfInBounds_toArray, List.set_cons_zero, List.set_cons_succ])
    refine wpAnyH_take (i := 8) (oi := ({ dst := some 12, op := .pick (.tmp 6) (.tmp 11) (.const (.bool false)), type := 4, pos := "frame.go:39", after := #[⟨2, .data⟩, ⟨7, .data⟩], guard := none } : Go.Oper)) (v := ?v34) rfl (by kernel_rfl) (by kernel_rfl) (by kernel_rfl) (fun _ _ _ h => h) (Or.inl ⟨by rfl, ?hy34⟩) (by assumption) ?rest34
    case hy34 => (intro w hSw; (try dsimp only at hSw); go_simp; (try with_reducible rfl))
    (try simp only [Act.put, List.getElem_toArray, List.getElem_cons_zero, List.getElem_cons_succ, List.setIfInBounds_toArray, List.set_cons_zero, List.set_cons_succ])
    refine wpAnyH_take (i := 9) (oi := ({ dst := some 13, op := .move (.tmp 12), type := 4, pos := "frame.go:39", after := #[⟨8, .data⟩, ⟨2, .chain⟩], guard := none } : Go.Oper)) (v := ?v35) rfl (by kernel_rfl) (by kernel_rfl) (by kernel_rfl) (fun _ _ _ h => h) (Or.inl ⟨by rfl, ?hy35⟩) (by assumption) ?rest35
    case hy35 => (intro w hSw; (try dsimp only at hSw); go_simp; (try with_reducible rfl))
    (try simp only [Act.put, List.getElem_toArray, List.getElem_cons_zero, List.getElem_cons_succ, List.setIfInBounds_toArray, List.set_cons_zero, List.set_cons_succ])
    refine wpAnyH_take (i := 10) (oi := ({ dst := some 14, op := .load 35 (.tmp 1), type := 35, pos := "frame.go:39", after := #[⟨9, .guard⟩], guard := some (9, true) } : Go.Oper)) (v := undef) rfl (by kernel_rfl) (by kernel_rfl) (by kernel_rfl) (fun _ _ _ h => h) (Or.inr ⟨by rfl, rfl⟩) (by assumption) ?_
    (try simp only [Act.put, List.getElem_toArray, List.getElem_cons_zero, List.getElem_cons_succ, List.setIfInBounds_toArray, List.set_cons_zero, List.set_cons_succ])
    refine wpAnyH_take (i := 11) (oi := ({ dst := some 15, op := .slice 35 (.tmp 14) none (some (.const (.int .i64 4))) none, type := 35, pos := "frame.go:39", after := #[⟨10, .data⟩, ⟨9, .guard⟩], guard := some (9, true) } : Go.Oper)) (v := undef) rfl (by kernel_rfl) (by kernel_rfl) (by kernel_rfl) (fun _ _ _ h => h) (Or.inr ⟨by rfl, rfl⟩) (by assumption) ?_
    (try simp only [Act.put, List.getElem_toArray, List.getElem_cons_zero, List.getElem_cons_succ, List.setIfInBounds_toArray, List.set_cons_zero, List.set_cons_succ])
    refine wpAnyH_take (i := 12) (oi := ({ dst := some 16, op := .load 35 (.tmp 1), type := 35, pos := "frame.go:39", after := #[⟨9, .guard⟩], guard := some (9, true) } : Go.Oper)) (v := undef) rfl (by kernel_rfl) (by kernel_rfl) (by kernel_rfl) (fun _ _ _ h => h) (Or.inr ⟨by rfl, rfl⟩) (by assumption) ?_
    (try simp only [Act.put, List.getElem_toArray, List.getElem_cons_zero, List.getElem_cons_succ, List.setIfInBounds_toArray, List.set_cons_zero, List.set_cons_succ])
    refine wpAnyH_take (i := 13) (oi := ({ dst := some 17, op := .move (.tmp 0), type := 3, pos := "frame.go:39", after := #[⟨9, .guard⟩], guard := some (9, true) } : Go.Oper)) (v := undef) rfl (by kernel_rfl) (by kernel_rfl) (by kernel_rfl) (fun _ _ _ h => h) (Or.inr ⟨by rfl, rfl⟩) (by assumption) ?_
    (try simp only [Act.put, List.getElem_toArray, List.getElem_cons_zero, List.getElem_cons_succ, List.setIfInBounds_toArray, List.set_cons_zero, List.set_cons_succ])
    refine wpAnyH_take (i := 14) (oi := ({ dst := some 18, op := .binOp .add 3 (.const (.int .i64 8)) (.tmp 17) 3, type := 3, pos := "frame.go:39", after := #[⟨13, .data⟩, ⟨9, .guard⟩], guard := some (9, true) } : Go.Oper)) (v := undef) rfl (by kernel_rfl) (by kernel_rfl) (by kernel_rfl) (fun _ _ _ h => h) (Or.inr ⟨by rfl, rfl⟩) (by assumption) ?_
    (try simp only [Act.put, List.getElem_toArray, List.getElem_cons_zero, List.getElem_cons_succ, List.setIfInBounds_toArray, List.set_cons_zero, List.set_cons_succ])
    refine wpAnyH_take (i := 15) (oi := ({ dst := some 19, op := .slice 35 (.tmp 16) (some (.const (.int .i64 8))) (some (.tmp 18)) none, type := 35, pos := "frame.go:39", after := #[⟨12, .data⟩, ⟨14, .data⟩, ⟨9, .guard⟩], guard := some (9, true) } : Go.Oper)) (v := undef) rfl (by kernel_rfl) (by kernel_rfl) (by kernel_rfl) (fun _ _ _ h => h) (Or.inr ⟨by rfl, rfl⟩) (by assumption) ?_
    (try simp only [Act.put, List.getElem_toArray, List.getElem_cons_zero, List.getElem_cons_succ, List.setIfInBounds_toArray, List.set_cons_zero, List.set_cons_succ])
    refine wpAnyH_take (i := 16) (oi := ({ dst := some 20, op := .buildSlice 85 2 #[(0, .tmp 15), (1, .tmp 19)], type := 85, pos := "frame.go:39", after := #[⟨11, .data⟩, ⟨15, .data⟩, ⟨9, .guard⟩], guard := some (9, true) } : Go.Oper)) (v := undef) rfl (by kernel_rfl) (by kernel_rfl) (by kernel_rfl) (fun _ _ _ h => h) (Or.inr ⟨by rfl, rfl⟩) (by assumption) ?_
    (try simp only [Act.put, List.getElem_toArray, List.getElem_cons_zero, List.getElem_cons_succ, List.setIfInBounds_toArray, List.set_cons_zero, List.set_cons_succ])
    refine wpAnyH_take (i := 17) (oi := ({ dst := some 21, op := .call { callee := .value (.func 56), args := #[.tmp 20], argTypes := #[85] }, type := 90, pos := "frame.go:39", after := #[⟨16, .data⟩, ⟨9, .chain⟩, ⟨9, .guard⟩], guard := some (9, true) } : Go.Oper)) (v := undef) rfl (by kernel_rfl) (by kernel_rfl) (by kernel_rfl) (fun _ _ _ h => h) (Or.inr ⟨by rfl, rfl⟩) (by assumption) ?_
    (try simp only [Act.put, List.getElem_toArray, List.getElem_cons_zero, List.getElem_cons_succ, List.setIfInBounds_toArray, List.set_cons_zero, List.set_cons_succ])
    refine wpAnyH_take (i := 18) (oi := ({ dst := some 22, op := .load 35 (.tmp 1), type := 35, pos := "frame.go:39", after := #[⟨9, .guard⟩], guard := some (9, true) } : Go.Oper)) (v := undef) rfl (by kernel_rfl) (by kernel_rfl) (by kernel_rfl) (fun _ _ _ h => h) (Or.inr ⟨by rfl, rfl⟩) (by assumption) ?_
    (try simp only [Act.put, List.getElem_toArray, List.getElem_cons_zero, List.getElem_cons_succ, List.setIfInBounds_toArray, List.set_cons_zero, List.set_cons_succ])
    refine wpAnyH_take (i := 19) (oi := ({ dst := some 23, op := .slice 35 (.tmp 22) (some (.const (.int .i64 4))) none none, type := 35, pos := "frame.go:39", after := #[⟨18, .data⟩, ⟨9, .guard⟩], guard := some (9, true) } : Go.Oper)) (v := undef) rfl (by kernel_rfl) (by kernel_rfl) (by kernel_rfl) (fun _ _ _ h => h) (Or.inr ⟨by rfl, rfl⟩) (by assumption) ?_
    (try simp only [Act.put, List.getElem_toArray, List.getElem_cons_zero, List.getElem_cons_succ, List.setIfInBounds_toArray, List.set_cons_zero, List.set_cons_succ])
    refine wpAnyH_take (i := 20) (oi := ({ dst := some 24, op := .call { callee := .value (.func 85), args := #[.tmp 23], argTypes := #[35] }, type := 90, pos := "frame.go:39", after := #[⟨19, .data⟩, ⟨17, .chain⟩, ⟨9, .guard⟩], guard := some (9, true) } : Go.Oper)) (v := undef) rfl (by kernel_rfl) (by kernel_rfl) (by kernel_rfl) (fun _ _ _ h => h) (Or.inr ⟨by rfl, rfl⟩) (by assumption) ?_
    (try simp only [Act.put, List.getElem_toArray, List.getElem_cons_zero, List.getElem_cons_succ, List.setIfInBounds_toArray, List.set_cons_zero, List.set_cons_succ])
    refine wpAnyH_take (i := 21) (oi := ({ dst := some 25, op := .binOp .eql 90 (.tmp 21) (.tmp 24) 90, type := 4, pos := "frame.go:39", after := #[⟨17, .data⟩, ⟨20, .data⟩, ⟨9, .guard⟩], guard := some (9, true) } : Go.Oper)) (v := undef) rfl (by kernel_rfl) (by kernel_rfl) (by kernel_rfl) (fun _ _ _ h => h) (Or.inr ⟨by rfl, rfl⟩) (by assumption) ?_
    (try simp only [Act.put, List.getElem_toArray, List.getElem_cons_zero, List.getElem_cons_succ, List.setIfInBounds_toArray, List.set_cons_zero, List.set_cons_succ])
    refine wpAnyH_take (i := 22) (oi := ({ dst := some 26, op := .pick (.tmp 13) (.tmp 25) (.const (.bool false)), type := 4, pos := "frame.go:39", after := #[⟨9, .data⟩, ⟨21, .data⟩], guard := none } : Go.Oper)) (v := ?v36) rfl (by kernel_rfl) (by kernel_rfl) (by kernel_rfl) (fun _ _ _ h => h) (Or.inl ⟨by rfl, ?hy36⟩) (by assumption) ?rest36
    case hy36 => (intro w hSw; (try dsimp only at hSw); go_simp; (try with_reducible rfl))
    (try simp only [Act.put, List.getElem_toArray, List.getElem_cons_zero, List.getElem_cons_succ, List.setIfInBounds_toArray, List.set_cons_zero, List.set_cons_succ])
    refine wpAnyH_take (i := 23) (oi := ({ dst := some 3, op := .assign (.tmp 26), type := 4, pos := "frame.go:39", after := #[⟨22, .data⟩, ⟨20, .chain⟩, ⟨0, .phase⟩, ⟨1, .phase⟩, ⟨2, .phase⟩, ⟨3, .phase⟩, ⟨4, .phase⟩, ⟨5, .phase⟩, ⟨6, .phase⟩, ⟨7, .phase⟩, ⟨8, .phase⟩, ⟨9, .phase⟩, ⟨10, .phase⟩, ⟨11, .phase⟩, ⟨12, .phase⟩, ⟨13, .phase⟩, ⟨14, .phase⟩, ⟨15, .phase⟩, ⟨16, .phase⟩, ⟨17, .phase⟩, ⟨18, .phase⟩, ⟨19, .phase⟩, ⟨20, .phase⟩, ⟨21, .phase⟩, ⟨22, .phase⟩], guard := none } : Go.Oper)) (v := ?v37) rfl (by kernel_rfl) (by kernel_rfl) (by kernel_rfl) (fun _ _ _ h => h) (Or.inl ⟨by rfl, ?hy37⟩) (by assumption) ?rest37
    case hy37 => (intro w hSw; (try dsimp only at hSw); go_simp; (try with_reducible rfl))
    (try simp only [Act.put, List.getElem_toArray, List.getElem_cons_zero, List.getElem_cons_succ, List.setIfInBounds_toArray, List.set_cons_zero, List.set_cons_succ])
    refine wpAnyH_done (by kernel_rfl) ?_ _
    go_wp2
    go_ret
    exact ⟨ret_bool hwf.out.symm, (by with_reducible (repeat (first | exact Ext.rfl_ _ | assumption | refine Ext.drew ?_ | refine Ext.drewN ?_ _ | refine Ext.alloc ?_ _ | refine Ext.trans ?_ (by assumption))))⟩

set_option maxRecDepth 100000 in
set_option maxHeartbeats 4000000 in
theorem first_any (A : Option Addr) (m c : Nat) (x : Bs) (w : World) (hx : Rd w A m x) (hmc : m ≤ c) (hm : m ≤ B40) :
    Calls Tryz.prog 58 #[.slice A m c] w fun e w' => ∃ A' n' c', e = .returned (.tuple #[.slice A' n' c', .bool (isF x)]) ∧ (isF x = true → Rd w' A' n' (plF x) ∧ n' ≤ c') ∧ Ext w w' := by
  have hxl := hx.1
  have hmb := hm
  unfold B40 at hm
  have HX := Lib.hid hx
  have hbox := heap_alloc_new w (.cells #[.slice A m c] 35)
  have HB := Lib.hid (box1 hbox (Ext.rfl_ _))
  clear hbox
  by_cases h8 : (m : Int) < 8
  · have hF : isF x = false := by
      rw [isF_whole, decide_eq_false (by omega : ¬ 8 ≤ x.length), Bool.false_and]
    rw [hF]
    have hd : decide ((m : Int) < 8) = true := decide_eq_true h8
    clear hx
    go_enter Tryz.func58, Tryz.ntmps58
    go_wp2_with fail
    go_ret2
    exact ⟨_, _, _, rfl, fun h => absurd h (by decide), (by with_reducible (repeat (first | exact Ext.rfl_ _ | assumption | refine Ext.drew ?_ | refine Ext.drewN ?_ _ | refine Ext.alloc ?_ _ | refine Ext.trans ?_ (by assumption))))⟩
  · have h8' : 8 ≤ m := by omega
    have hd : decide ((m : Int) < 8) = false := decide_eq_false h8
    obtain ⟨b, o, rfl, _⟩ := hx.2 (by omega)
    obtain ⟨n, hn⟩ : ∃ n, n = nF x := ⟨_, rfl⟩
    have hn32 : n < 4294967296 := by rw [hn]; exact un4_lt _
    have hwr : wrap64 (n : Int) = (n : Int) := w64 (by omega) (by omega)
    have hF : isF x = wholeF x n := by
      rw [isF_whole, decide_eq_true (by omega : 8 ≤ x.length), Bool.true_and, hn]
    have hu : un4 (x.take 4) = n := by rw [hn]; rfl
    have HU := Lib.hid hu
    have HN := Lib.hid hn
    rw [hF]
    clear hx hu hn
    go_enter Tryz.func58, Tryz.ntmps58
    go_wp2_with (first | (go_at_call 85; refine (funword_any b o m c x _ (HX.out.ext (by with_reducible (repeat (first | exact Ext.rfl_ _ | assumption | refine Ext.drew ?_ | refine Ext.drewN ?_ _ | refine Ext.alloc ?_ _ | refine Ext.trans ?_ (by assumption))))) (by omega)).mono ?_; rintro e w1 ⟨rfl, hw1⟩; rw [HU.out]))
    refine (first1_any w.heap.size b o m c n x _ (HX.out.ext (by with_reducible (repeat (first | exact Ext.rfl_ _ | assumption | refine Ext.drew ?_ | refine Ext.drewN ?_ _ | refine Ext.alloc ?_ _ | refine Ext.trans ?_ (by assumption))))) hmc hmb h8' hn32 (hw1.keeps _ _ _ HB.out.1)).mono ?_
    rintro e w2 ⟨rfl, hw2⟩
    have hcell := hw2.keeps _ _ _ (hw1.keeps _ _ _ HB.out.1)
    have HC := Lib.hid hcell
    have hE : Ext w w2 := (by with_reducible (repeat (first | exact Ext.rfl_ _ | assumption | refine Ext.drew ?_ | refine Ext.drewN ?_ _ | refine Ext.alloc ?_ _ | refine Ext.trans ?_ (by assumption))))
    clear HB hw1 hw2 hcell
    by_cases hwf : wholeF x n = true
    · have hwf' := hwf
      unfold wholeF mayF at hwf'
      simp only [Bool.and_eq_true, decide_eq_true_eq] at hwf'
      have hn8 : n + 8 ≤ m := by omega
      have hn1 : 1 ≤ n := by omega
      have hwr3 : IntKind.i64.wrap (n : Int) = (n : Int) := by rw [IntKind.wrap_i64]; omega
      have hwr2 : IntKind.i64.wrap (8 + (n : Int)) = 8 + (n : Int) := by rw [IntKind.wrap_i64]; omega
      have hc8 : 8 + (n : Int) ≤ (c : Int) := by omega
      have h08 : 0 ≤ 8 + (n : Int) := by omega
      have h88 : (8 : Int) ≤ max (8 + (n : Int)) 0 := by omega
      have hcn8 : ¬ c = 8 := by omega
      have htn : (8 + (n : Int)).toNat - 8 = n := by omega
      have hpl : plF x = (x.drop 8).take n := by rw [HN.out]; rfl
      have HP := Lib.hid hpl
      have HWF := Lib.hid hwf
      rw [hwf]
      clear hwf hwf' hpl
      go_wp2
      refine wp_region_held_drew (S := (fun w' => w'.cell? ⟨w.heap.size, 0, none⟩ = some (.slice (some ⟨b, o, none⟩) m c))) (by kernel_rfl) (by (try dsimp only); exact Ext.keeps (show Ext w2 _ from (by with_reducible (repeat (first | exact Ext.rfl_ _ | assumption | refine Ext.drew ?_ | refine Ext.drewN ?_ _ | refine Ext.alloc ?_ _ | refine Ext.trans ?_ (by assumption))))) _ _ _ HC.out) (fun hHeld => ?_)
      refine wpAnyH_take (i := 0) (oi := ({ dst := some 17, op := .load 35 (.tmp 1), type := 35, pos := "frame.go:44", after := #[], guard := none } : Go.Oper)) (v := ?v38) rfl (by kernel_rfl) (by kernel_rfl) (by kernel_rfl) (fun _ _ _ h => h) (Or.inl ⟨by rfl, ?hy38⟩) (by assumption) ?rest38
      case hy38 => (intro w hSw; (try dsimp only at hSw); go_simp; (try with_reducible rfl))
      (try simp only [Act.put, List.getElem_toArray, List.getElem_cons_zero, List.getElem_cons_succ, List.setIfInBounds_toArray, List.set_cons_zero, List.set_cons_succ])
      refine wpAnyH_take (i := 1) (oi := ({ dst := some 18, op := .load 35 (.tmp 1), type := 35, pos := "frame.go:44", after := #[], guard := none } : Go.Oper)) (v := ?v39) rfl (by kernel_rfl) (by kernel_rfl) (by kernel_rfl) (fun _ _ _ h => h) (Or.inl ⟨by rfl, ?hy39⟩) (by assumption) ?rest39
      case hy39 => (intro w hSw; (try dsimp only at hSw); go_simp; (try with_reducible rfl))
      (try simp only [Act.put, List.getElem_toArray, List.getElem_cons_zero, List.getElem_cons_succ, List.setIfInBounds_toArray, List.set_cons_zero, List.set_cons_succ])
      refine wpAnyH_ready (rs := [2]) (by kernel_rfl) (by simp) ?_
      refine AllReadyH.cons (o := ({ dst := some 19, op := .call { callee := .value (.func 85), args := #[.tmp 18], argTypes := #[35] }, type := 90, pos := "frame.go:44", after := #[⟨1, .data⟩], guard := none } : Go.Oper)) rfl (fun K hK => ?_) AllReadyH.nil
      go_simp
      (go_at_call 85; refine (funword_any b o m c x _ (HX.out.ext (by with_reducible (repeat (first | exact Ext.rfl_ _ | assumption | refine Ext.drew ?_ | refine Ext.drewN ?_ _ | refine Ext.alloc ?_ _ | refine Ext.trans ?_ (by assumption))))) (by omega)).mono ?_; rintro e w3 ⟨rfl, hw3⟩; rw [HU.out])
      (try (go_wp2_with fail))
      refine hK.out _ _ (by (try dsimp only); exact Ext.keeps (show Ext w2 _ from (by with_reducible (repeat (first | exact Ext.rfl_ _ | assumption | refine Ext.drew ?_ | refine Ext.drewN ?_ _ | refine Ext.alloc ?_ _ | refine Ext.trans ?_ (by assumption))))) _ _ _ HC.out) (fun hHeld => ?_)
      clear hK K
      (try simp only [Act.put, List.getElem_toArray, List.getElem_cons_zero, List.getElem_cons_succ, List.setIfInBounds_toArray, List.set_cons_zero, List.set_cons_succ])
      refine wpAnyH_take (i := 3) (oi := ({ dst := some 20, op := .convert 90 3 (.tmp 19), type := 3, pos := "frame.go:44", after := #[⟨2, .data⟩], guard := none } : Go.Oper)) (v := ?v40) rfl (by kernel_rfl) (by kernel_rfl) (by kernel_rfl) (fun _ _ _ h => h) (Or.inl ⟨by rfl, ?hy40⟩) (by assumption) ?rest40
      case hy40 => (intro w hSw; (try dsimp only at hSw); go_simp; (try with_reducible rfl))
      (try simp only [Act.put, List.getElem_toArray, List.getElem_cons_zero, List.getElem_cons_succ, List.setIfInBounds_toArray, List.set_cons_zero, List.set_cons_succ])
      refine wpAnyH_take (i := 4) (oi := ({ dst := some 21, op := .binOp .add 3 (.const (.int .i64 8)) (.tmp 20) 3, type := 3, pos := "frame.go:44", after := #[⟨3, .data⟩], guard := none } : Go.Oper)) (v := ?v41) rfl (by kernel_rfl) (by kernel_rfl) (by kernel_rfl) (fun _ _ _ h => h) (Or.inl ⟨by rfl, ?hy41⟩) (by assumption) ?rest41
      case hy41 => (intro w hSw; (try dsimp only at hSw); go_simp; (try with_reducible rfl))
      (try simp only [Act.put, List.getElem_toArray, List.getElem_cons_zero, List.getElem_cons_succ, List.setIfInBounds_toArray, List.set_cons_zero, List.set_cons_succ])
      refine wpAnyH_take (i := 5) (oi := ({ dst := some 22, op := .slice 35 (.tmp 17) (some (.const (.int .i64 8))) (some (.tmp 21)) none, type := 35, pos := "frame.go:44", after := #[⟨0, .data⟩, ⟨4, .data⟩], guard := none } : Go.Oper)) (v := ?v42) rfl (by kernel_rfl) (by kernel_rfl) (by kernel_rfl) (fun _ _ _ h => h) (Or.inl ⟨by rfl, ?hy42⟩) (by assumption) ?rest42
      case hy42 => (intro w hSw; (try dsimp only at hSw); go_simp; (try with_reducible rfl))
      (try simp only [Act.put, List.getElem_toArray, List.getElem_cons_zero, List.getElem_cons_succ, List.setIfInBounds_toArray, List.set_cons_zero, List.set_cons_succ])
      refine wpAnyH_take (i := 6) (oi := ({ dst := some 2, op := .assign (.tmp 22), type := 35, pos := "frame.go:44", after := #[⟨5, .data⟩, ⟨2, .chain⟩, ⟨0, .phase⟩, ⟨1, .phase⟩, ⟨2, .phase⟩, ⟨3, .phase⟩, ⟨4, .phase⟩, ⟨5, .phase⟩], guard := none } : Go.Oper)) (v := ?v43) rfl (by kernel_rfl) (by kernel_rfl) (by kernel_rfl) (fun _ _ _ h => h) (Or.inl ⟨by rfl, ?hy43⟩) (by assumption) ?rest43
      case hy43 => (intro w hSw; (try dsimp only at hSw); go_simp; (try with_reducible rfl))
      (try simp only [Act.put, List.getElem_toArray, List.getElem_cons_zero, List.getElem_cons_succ, List.setIfInBounds_toArray, List.set_cons_zero, List.set_cons_succ])
      refine wpAnyH_take (i := 7) (oi := ({ dst := some 3, op := .assign (.const (.bool true)), type := 4, pos := "frame.go:44", after := #[⟨6, .chain⟩, ⟨0, .phase⟩, ⟨1, .phase⟩, ⟨2, .phase⟩, ⟨3, .phase⟩, ⟨4, .phase⟩, ⟨5, .phase⟩, ⟨6, .phase⟩], guard := none } : Go.Oper)) (v := ?v44) rfl (by kernel_rfl) (by kernel_rfl) (by kernel_rfl) (fun _ _ _ h => h) (Or.inl ⟨by rfl, ?hy44⟩) (by assumption) ?rest44
      case hy44 => (intro w hSw; (try dsimp only at hSw); go_simp; (try with_reducible rfl))
      (try simp only [Act.put, List.getElem_toArray, List.getElem_cons_zero, List.getElem_cons_succ, List.setIfInBounds_toArray, List.set_cons_zero, List.set_cons_succ])
      refine wpAnyH_done (by kernel_rfl) ?_ _
      go_wp2
      go_ret2
      refine ⟨some ⟨b, o + 8, none⟩, n, c - 8, ?_, fun _ => ⟨by rw [HP.out]; exact (HX.out.mid 8 n (by omega)).ext (by with_reducible (repeat (first | exact Ext.rfl_ _ | assumption | refine Ext.drew ?_ | refine Ext.drewN ?_ _ | refine Ext.alloc ?_ _ | refine Ext.trans ?_ (by assumption)))), by omega⟩, (by with_reducible (repeat (first | exact Ext.rfl_ _ | assumption | refine Ext.drew ?_ | refine Ext.drewN ?_ _ | refine Ext.alloc ?_ _ | refine Ext.trans ?_ (by assumption))))⟩
      rw [HWF.out]
      simp only [Array.getD_eq_getD_getElem?, List.getElem?_toArray, List.getElem?_cons_zero, List.getElem?_cons_succ, Option.getD_some, htn]
    · have hwf' : wholeF x n = false := by simpa using hwf
      have HWF := Lib.hid hwf'
      rw [hwf']
      clear hwf hwf'
      go_wp2
      go_ret2
      exact ⟨none, 0, 0, by rw [HWF.out]; rfl, fun h => absurd (h.symm.trans HWF.out) (by decide), (by with_reducible (repeat (first | exact Ext.rfl_ _ | assumption | refine Ext.drew ?_ | refine Ext.drewN ?_ _ | refine Ext.alloc ?_ _ | refine Ext.trans ?_ (by assumption))))⟩

end Go.Proofs.YteooaplimiifiaaGreat
