/- slices.Values of entries and block.From: what their iterators go over. Conditions: the slices read. -/
import Derived.Test.YthfhococglbpoaaBlkH
import Derived.Test.YthfhococglbpoaaGoes
import Derived.Test.YthfhococglbpoaaLate
import Derived.Test.YthfhococglbpoaaRdQ
namespace Go.Proofs.Ythfhococglbpoaa
set_option linter.unusedSimpArgs false
set_option linter.unusedVariables false
open Go.RowKit
attribute [local go_sem] Oper.semAt_some

theorem RdQ.drop {Z : Nat → Prop} {w : World} {b o n : Nat} {xs : List Ent} (h : RdQ Z w (some ⟨b, o, none⟩) n xs) (k : Nat) (hk : k ≤ n) : RdQ Z w (some ⟨b, o + k * 4, none⟩) (n - k) (xs.drop k) := by
  obtain ⟨hs, h1, h2, h3, h4, h5, h6⟩ := h
  refine ⟨hs.drop k, by simp [h1], by simp [h2], Nat.le_trans (Nat.sub_le _ _) h3, fun hn => ?_, fun i i1 i2 => ?_, fun hd hm => h6 hd (List.mem_of_mem_drop hm)⟩
  · obtain ⟨b', o', e, hb, hc⟩ := h4 (by omega)
    cases e
    refine ⟨b, o + k * 4, rfl, hb, fun j u hu => ?_⟩
    rw [Nat.add_assoc]
    exact hc _ u (rowE_drop h1 k (by omega) j u hu)
  · simp only [List.getElem_drop]
    exact h5 (k + i) (by simp at i1; omega) (by simp at i2; omega)
theorem OwnF.rdq {w : World} {base : Nat} {v : Value} {xs : List Ent} (h : OwnF w base v xs) (hB : xs.length ≤ B41) : ∃ A c, v = .slice A xs.length c ∧ xs.length ≤ c ∧ RdQ (fun k => base ≤ k) w A xs.length xs ∧ (A = none ∨ ∃ g, A = some ⟨g, 0, none⟩) := by
  obtain ⟨A0, c0, e0, l0, r0, i0, hA0⟩ := h.ownL.form hB
  obtain ⟨hs, hl, ho, hr⟩ := h
  have hH : OwnH w base v hs xs := ⟨hl, ho, fun i i1 i2 => (hr i i1 i2).elt'⟩
  have hz : ∀ hd ∈ hs, HdZ (fun k => base ≤ k) hd := fun hd hm => by
    obtain ⟨i, i1, rfl⟩ := List.mem_iff_getElem.1 hm
    obtain ⟨A, n, c, A', n', c', hv, _, _, _, _, _, _, _, _, g1, g2⟩ := hr i i1 (by omega)
    simp [cellsE] at hv
    obtain ⟨⟨e1, e2, e3⟩, e4, e5, e6⟩ := hv
    exact ⟨by rw [e1, e2]; exact g1, by rw [e4, e5]; exact g2⟩
  obtain ⟨A, n, c, hv, l1, r1⟩ := hH.rdq hB hz (fun k hk => hk)
  rw [e0] at hv
  cases hv
  exact ⟨A0, c0, e0, l0, r1, hA0⟩

set_option maxHeartbeats 400000 in
theorem values_any (A : Option Addr) (n c : Nat) (w : World) :
    Calls Try.prog 44 #[.slice A n c] w fun e w' => e = .returned (.func (.func 67) #[] #[.pointer (some ⟨w.heap.size, 0, none⟩)]) ∧ w' = w.alloc (.cells #[.slice A n c] 37) := by
  go_enter Try.func44, Try.ntmps44
  go_wp2
  go_ret
  exact ⟨rfl, rfl⟩

set_option maxRecDepth 100000 in
set_option maxHeartbeats 2000000 in
theorem values1_seq (Z : Nat → Prop) (A : Option Addr) (n c g : Nat) (xs : List Ent) (S : Nat → Prop) (w0 : World) (hl : RdQ Z w0 A n xs) (hnc : n ≤ c) (hZ : ∀ k, Z k → ¬ S k)
    (hg : w0.cell? ⟨g, 0, none⟩ = some (.slice A n c)) (hgS : ¬ S g) :
    SeqT Try.prog 67 #[.pointer (some ⟨g, 0, none⟩)] OkN S xs w0 := by
  intro num l J Jx W hW hJ hJx hY hJ0
  have hxl := hl.rdl.1
  have hq := hl.rdl.2.1
  unfold B41 at hq
  have hg1 := hW.keeps' hg
  have hgW := cell_lt hg1
  have hlW := (hl.lt.ext hW)
  have hZW : ∀ b, b < W.heap.size → (Z b ∧ b < w0.heap.size) → (b < W.heap.size ∧ ¬ S b) := fun b hb h => ⟨hb, hZ b h.1⟩
  have HLW := Lib.hid hlW
  clear hl hlW
  refine callsIn_of_wp Try.func67 rfl trivial ?_ rfl
  simp only [Try.ntmps67, List.size_toArray, List.length_cons, List.length_nil, Nat.reduceAdd, Nat.reduceSub, Array.replicate_succ, Array.replicate_zero, List.push_toArray, List.append_toArray, List.nil_append, List.cons_append]
  gi_wp2
  gi_loopw [7] (fun i wr => ∃ k : Nat, k ≤ n ∧ i = .int .i64 k ∧ J (xs.take k) (fun _ => False) wr ∧ Kept (fun j => j < W.heap.size ∧ ¬ S j) W wr)
    (fun i _ => n - (intOf i).toNat)
  case atStart => exact ⟨0, Nat.zero_le _, rfl, hJ0, Kept.rfl_ _ _⟩
  case round =>
    obtain ⟨k, hk, rfl, hJs, hkp⟩ := hrel
    by_cases hlt : k < n
    · have hl' := (HLW.out.kept hkp hZW).rdl
      obtain ⟨b, o, A1, n1, c1, A2, n2, c2, y, rfl, hy, ⟨e0, e1, e2, e3⟩, hry⟩ := hl'.at_ k hlt
      have hkl : k < xs.length := by omega
      have hyk : xs[k] = y := by rw [List.getElem?_eq_getElem hkl] at hy; exact Option.some.inj hy
      have hpre : xs.take (k + 1) = xs.take k ++ [y] := by rw [List.take_succ_eq_append_getElem hkl, hyk]
      have HP := Lib.hid hpre
      have HY := Lib.hid hry
      have hk' : (k : Int) < (n : Int) := by omega
      have hk'' : (k : Int) ≤ (c : Int) := by omega
      have hcn : (n : Int) ≤ (c : Int) := by omega
      have H2 := Lib.hid hJs
      have H3 := Lib.hid hkp
      clear hl' hry hy hyk hJs hkp hg hg1 hW hpre
      have hbx := blk1 wr (.cells #[.slice A1 n1 c1, .int .i64 y.seq, .int .i64 y.kind, .slice A2 n2 c2] 28)
      obtain ⟨q0, q1, q2, q3, f0, f1, f2, f3⟩ := box4 hbx (Ext.rfl_ _)
      clear hbx
      have hx1 : Ext wr (wr.alloc (.cells #[.slice A1 n1 c1, .int .i64 y.seq, .int .i64 y.kind, .slice A2 n2 c2] 28)) := (by with_reducible (repeat (first | exact Ext.rfl_ _ | assumption | refine Ext.drew ?_ | refine Ext.drewN ?_ _ | refine Ext.alloc ?_ _ | refine Ext.trans ?_ (by assumption))))
      have HX1 := Lib.hid hx1
      clear hx1
      gi_wp2
      obtain ⟨fn, tmps, assign, body, hy, hR⟩ := hY (xs.take k) y #[.agg #[.slice A1 n1 c1, .int .i64 y.seq, .int .i64 y.kind, .slice A2 n2 c2]] (fun _ => False) (wr.alloc (.cells #[.slice A1 n1 c1, .int .i64 y.seq, .int .i64 y.kind, .slice A2 n2 c2] 28)) (num - 1) (hJ _ _ _ wr _ H2.out (Kept.of_ext HX1.out) (fun _ h => h) (fun _ h => .inl h)) (by rw [← HP.out]; exact List.take_prefix _ _) ⟨_, rfl, HY.out.ext HX1.out⟩ (fun _ h => h.elim) (Nat.le_trans H3.out.size HX1.out.size)
      rw [hy]
      refine ⟨fun h => (by simp [Fence.wide] at h), ?_⟩
      refine RoundIn.mono hR ?_
      rintro e W3 hE
      rcases hE with ⟨rfl, hJ3, hk3⟩ | ⟨rfl, hJ3, hk3⟩
      · have hkk := (H3.out.then_ HX1.out).trans (hk3.mono fun k hk => .inr hk)
        have HJ3 := Lib.hid hJ3
        have HKK := Lib.hid hkk
        clear hJ3 hk3 hkk hy hR
        gi_wp2
        go_roundw
        case rel => exact ⟨k + 1, by omega, by simp, by rw [HP.out]; exact HJ3.out, HKK.out⟩
        case measure => simp [intOf]; omega
      · have HJ3 := Lib.hid hJ3
        clear hJ3 hk3 hy hR
        gi_wp2
        refine bodyPost_ret (results_none rfl _ _ _) rfl ?_
        exact ⟨⟨_, rfl⟩, .inr ⟨_, _, by rw [← HP.out]; exact List.take_prefix _ _, HJ3.out⟩⟩
    · obtain rfl : k = n := by omega
      have hall : xs.take k = xs := List.take_of_length_le (by omega)
      rw [hall] at hJs
      gi_wp2
      go_end0
      exact ⟨⟨_, rfl⟩, .inl ⟨fun _ => False, hJs⟩⟩

set_option maxRecDepth 100000 in
theorem bfrom_any (A : Option Addr) (n c : Nat) (B : Option Addr) (m d : Nat) (w : World) :
    Calls Try.prog 20 #[.slice A n c, .slice B m d] w fun e w' => e = .returned (.func (.func 41) #[] #[.pointer (some ⟨w.heap.size, 0, none⟩), .pointer (some ⟨w.heap.size + 1, 0, none⟩)]) ∧ w' = (w.alloc (.cells #[.slice A n c] 22)).alloc (.cells #[.slice B m d] 22) := by
  go_enter Try.func20, Try.ntmps20
  go_wp2
  go_ret
  exact ⟨rfl, rfl⟩

set_option maxRecDepth 100000 in
set_option maxHeartbeats 1000000 in
theorem bfrom11_any (gk : Nat) (A : Option Addr) (n c : Nat) (v : Value) (k : Bs) (y : Ent) (w : World) (hg : w.cell? ⟨gk, 0, none⟩ = some (.slice A n c)) (hk : Rd w A n k) (hy : RdE w v y) :
    Calls Try.prog 42 #[v, .pointer (some ⟨gk, 0, none⟩)] w fun e w' => e = .returned (.bool (decide (cmpK y.key k < 0))) ∧ Ext w w' := by
  obtain ⟨A', n', c', B', m', d', rfl, hyk, _⟩ := hy
  have hx1 : Ext w (w.alloc (.cells #[.slice A' n' c', .int .i64 y.seq, .int .i64 y.kind, .slice B' m' d'] 28)) := (by with_reducible (repeat (first | exact Ext.rfl_ _ | assumption | refine Ext.drew ?_ | refine Ext.drewN ?_ _ | refine Ext.alloc ?_ _ | refine Ext.trans ?_ (by assumption))))
  obtain ⟨q0, q1, q2, q3, _, _, _, _⟩ := box4 (blk1 w (.cells #[.slice A' n' c', .int .i64 y.seq, .int .i64 y.kind, .slice B' m' d'] 28)) (Ext.rfl_ _)
  have hg1 := hx1.keeps _ _ _ hg
  have HK := Lib.hid (hk.ext hx1)
  have HY := Lib.hid (hyk.ext hx1)
  have HX := Lib.hid hx1
  clear hk hyk hx1 hg
  go_enter Try.func42, Try.ntmps42
  go_wp2_with fail
  refine (cmpKeys_any _ _ _ _ _ _ y.key k _ HY.out HK.out).mono ?_
  rintro e w' ⟨rfl, rfl⟩
  go_wp2
  go_ret
  exact ⟨ret_bool rfl, HX.out⟩


end Go.Proofs.Ythfhococglbpoaa
