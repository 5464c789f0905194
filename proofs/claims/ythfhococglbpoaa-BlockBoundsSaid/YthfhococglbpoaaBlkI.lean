/- slices.Values of entries and block.From: what their iterators go over. Conditions: the slices read. -/
/- block.From's iterator: the entries from a key on. Conditions: the slices read. -/
import Derived.Test.YthfhococglbpoaaBlkG
import Derived.Test.YthfhococglbpoaaGoes
import Derived.Test.YthfhococglbpoaaLate
import Derived.Test.YthfhococglbpoaaRdQ
namespace Go.Proofs.Ythfhococglbpoaa
set_option linter.unusedSimpArgs false
set_option linter.unusedVariables false
open Go.RowKit
attribute [local go_sem] Oper.semAt_some

theorem RdQ.drop {Z : Nat → Prop} {w : World} {b o n : Nat} {xs : List Ent} (h : RdQ Z w (some ⟨b, o, none⟩) n xs) (k : Nat) (hk : k ≤ n) : RdQ Z w (some ⟨b, o + k * 4, none⟩) (n - k) (xs.drop k) := by
  obtain ⟨hs, h1, h2, h3, h4, h5, h6⟩ := h
  refine ⟨hs.drop k, by simp [h1], by simp [h2], Nat.le_trans (Nat.sub_le _ _) h3, fun hn => ?_, fun i i1 i2 => ?_, fun hd hm => h6 hd (List.mem_of_mem_drop hm)⟩
  · obtain ⟨b', o', e, hb, hc⟩ := h4 (by omega)
    cases e
    refine ⟨b, o + k * 4, rfl, hb, fun j u hu => ?_⟩
    rw [Nat.add_assoc]
    exact hc _ u (rowE_drop h1 k (by omega) j u hu)
  · simp only [List.getElem_drop]
    exact h5 (k + i) (by simp at i1; omega) (by simp at i2; omega)
theorem OwnF.rdq {w : World} {base : Nat} {v : Value} {xs : List Ent} (h : OwnF w base v xs) (hB : xs.length ≤ B41) : ∃ A c, v = .slice A xs.length c ∧ xs.length ≤ c ∧ RdQ (fun k => base ≤ k) w A xs.length xs ∧ (A = none ∨ ∃ g, A = some ⟨g, 0, none⟩) := by
  obtain ⟨A0, c0, e0, l0, r0, i0, hA0⟩ := h.ownL.form hB
  obtain ⟨hs, hl, ho, hr⟩ := h
  have hH : OwnH w base v hs xs := ⟨hl, ho, fun i i1 i2 => (hr i i1 i2).elt'⟩
  have hz : ∀ hd ∈ hs, HdZ (fun k => base ≤ k) hd := fun hd hm => by
    obtain ⟨i, i1, rfl⟩ := List.mem_iff_getElem.1 hm
    obtain ⟨A, n, c, A', n', c', hv, _, _, _, _, _, _, _, _, g1, g2⟩ := hr i i1 (by omega)
    simp [cellsE] at hv
    obtain ⟨⟨e1, e2, e3⟩, e4, e5, e6⟩ := hv
    exact ⟨by rw [e1, e2]; exact g1, by rw [e4, e5]; exact g2⟩
  obtain ⟨A, n, c, hv, l1, r1⟩ := hH.rdq hB hz (fun k hk => hk)
  rw [e0] at hv
  cases hv
  exact ⟨A0, c0, e0, l0, r1, hA0⟩

set_option maxHeartbeats 400000 in
theorem values_any (A : Option Addr) (n c : Nat) (w : World) :
    Calls Try.prog 44 #[.slice A n c] w fun e w' => e = .returned (.func (.func 67) #[] #[.pointer (some ⟨w.heap.size, 0, none⟩)]) ∧ w' = w.alloc (.cells #[.slice A n c] 37) := by
  go_enter Try.func44, Try.ntmps44
  go_wp2
  go_ret
  exact ⟨rfl, rfl⟩

set_option maxRecDepth 100000 in
set_option maxHeartbeats 2000000 in
theorem values1_seq (Z : Nat → Prop) (A : Option Addr) (n c g : Nat) (xs : List Ent) (S : Nat → Prop) (w0 : World) (hl : RdQ Z w0 A n xs) (hnc : n ≤ c) (hZ : ∀ k, Z k → ¬ S k)
    (hg : w0.cell? ⟨g, 0, none⟩ = some (.slice A n c)) (hgS : ¬ S g) :
    SeqT Try.prog 67 #[.pointer (some ⟨g, 0, none⟩)] OkN S xs w0 := by
  intro num l J Jx W hW hJ hJx hY hJ0
  have hxl := hl.rdl.1
  have hq := hl.rdl.2.1
  unfold B41 at hq
  have hg1 := hW.keeps' hg
  have hgW := cell_lt hg1
  have hlW := (hl.lt.ext hW)
  have hZW : ∀ b, b < W.heap.size → (Z b ∧ b < w0.heap.size) → (b < W.heap.size ∧ ¬ S b) := fun b hb h => ⟨hb, hZ b h.1⟩
  have HLW := Lib.hid hlW
  clear hl hlW
  refine callsIn_of_wp Try.func67 rfl trivial ?_ rfl
  simp only [Try.ntmps67, List.size_toArray, List.length_cons, List.length_nil, Nat.reduceAdd, Nat.reduceSub, Array.replicate_succ, Array.replicate_zero, List.push_toArray, List.append_toArray, List.nil_append, List.cons_append]
  gi_wp2
  gi_loopw [7] (fun i wr => ∃ k : Nat, k ≤ n ∧ i = .int .i64 k ∧ J (xs.take k) (fun _ => False) wr ∧ Kept (fun j => j < W.heap.size ∧ ¬ S j) W wr)
    (fun i _ => n - (intOf i).toNat)
  case atStart => exact ⟨0, Nat.zero_le _, rfl, hJ0, Kept.rfl_ _ _⟩
  case round =>
    obtain ⟨k, hk, rfl, hJs, hkp⟩ := hrel
    by_cases hlt : k < n
    · have hl' := (HLW.out.kept hkp hZW).rdl
      obtain ⟨b, o, A1, n1, c1, A2, n2, c2, y, rfl, hy, ⟨e0, e1, e2, e3⟩, hry⟩ := hl'.at_ k hlt
      have hkl : k < xs.length := by omega
      have hyk : xs[k] = y := by rw [List.getElem?_eq_getElem hkl] at hy; exact Option.some.inj hy
      have hpre : xs.take (k + 1) = xs.take k ++ [y] := by rw [List.take_succ_eq_append_getElem hkl, hyk]
      have HP := Lib.hid hpre
      have HY := Lib.hid hry
      have hk' : (k : Int) < (n : Int) := by omega
      have hk'' : (k : Int) ≤ (c : Int) := by omega
      have hcn : (n : Int) ≤ (c : Int) := by omega
      have H2 := Lib.hid hJs
      have H3 := Lib.hid hkp
      clear hl' hry hy hyk hJs hkp hg hg1 hW hpre
      have hbx := blk1 wr (.cells #[.slice A1 n1 c1, .int .i64 y.seq, .int .i64 y.kind, .slice A2 n2 c2] 28)
      obtain ⟨q0, q1, q2, q3, f0, f1, f2, f3⟩ := box4 hbx (Ext.rfl_ _)
      clear hbx
      have hx1 : Ext wr (wr.alloc (.cells #[.slice A1 n1 c1, .int .i64 y.seq, .int .i64 y.kind, .slice A2 n2 c2] 28)) := (by with_reducible (repeat (first | exact Ext.rfl_ _ | assumption | refine Ext.drew ?_ | refine Ext.drewN ?_ _ | refine Ext.alloc ?_ _ | refine Ext.trans ?_ (by assumption))))
      have HX1 := Lib.hid hx1
      clear hx1
      gi_wp2
      obtain ⟨fn, tmps, assign, body, hy, hR⟩ := hY (xs.take k) y #[.agg #[.slice A1 n1 c1, .int .i64 y.seq, .int .i64 y.kind, .slice A2 n2 c2]] (fun _ => False) (wr.alloc (.cells #[.slice A1 n1 c1, .int .i64 y.seq, .int .i64 y.kind, .slice A2 n2 c2] 28)) (num - 1) (hJ _ _ _ wr _ H2.out (Kept.of_ext HX1.out) (fun _ h => h) (fun _ h => .inl h)) (by rw [← HP.out]; exact List.take_prefix _ _) ⟨_, rfl, HY.out.ext HX1.out⟩ (fun _ h => h.elim) (Nat.le_trans H3.out.size HX1.out.size)
      rw [hy]
      refine ⟨fun h => (by simp [Fence.wide] at h), ?_⟩
      refine RoundIn.mono hR ?_
      rintro e W3 hE
      rcases hE with ⟨rfl, hJ3, hk3⟩ | ⟨rfl, hJ3, hk3⟩
      · have hkk := (H3.out.then_ HX1.out).trans (hk3.mono fun k hk => .inr hk)
        have HJ3 := Lib.hid hJ3
        have HKK := Lib.hid hkk
        clear hJ3 hk3 hkk hy hR
        gi_wp2
        go_roundw
        case rel => exact ⟨k + 1, by omega, by simp, by rw [HP.out]; exact HJ3.out, HKK.out⟩
        case measure => simp [intOf]; omega
      · have HJ3 := Lib.hid hJ3
        clear hJ3 hk3 hy hR
        gi_wp2
        refine bodyPost_ret (results_none rfl _ _ _) rfl ?_
        exact ⟨⟨_, rfl⟩, .inr ⟨_, _, by rw [← HP.out]; exact List.take_prefix _ _, HJ3.out⟩⟩
    · obtain rfl : k = n := by omega
      have hall : xs.take k = xs := List.take_of_length_le (by omega)
      rw [hall] at hJs
      gi_wp2
      go_end0
      exact ⟨⟨_, rfl⟩, .inl ⟨fun _ => False, hJs⟩⟩

set_option maxRecDepth 100000 in
theorem bfrom_any (A : Option Addr) (n c : Nat) (B : Option Addr) (m d : Nat) (w : World) :
    Calls Try.prog 20 #[.slice A n c, .slice B m d] w fun e w' => e = .returned (.func (.func 41) #[] #[.pointer (some ⟨w.heap.size, 0, none⟩), .pointer (some ⟨w.heap.size + 1, 0, none⟩)]) ∧ w' = (w.alloc (.cells #[.slice A n c] 22)).alloc (.cells #[.slice B m d] 22) := by
  go_enter Try.func20, Try.ntmps20
  go_wp2
  go_ret
  exact ⟨rfl, rfl⟩

set_option maxRecDepth 100000 in
set_option maxHeartbeats 1000000 in
theorem bfrom11_any (gk : Nat) (A : Option Addr) (n c : Nat) (v : Value) (k : Bs) (y : Ent) (w : World) (hg : w.cell? ⟨gk, 0, none⟩ = some (.slice A n c)) (hk : Rd w A n k) (hy : RdE w v y) :
    Calls Try.prog 42 #[v, .pointer (some ⟨gk, 0, none⟩)] w fun e w' => e = .returned (.bool (decide (cmpK y.key k < 0))) ∧ Ext w w' := by
  obtain ⟨A', n', c', B', m', d', rfl, hyk, _⟩ := hy
  have hx1 : Ext w (w.alloc (.cells #[.slice A' n' c', .int .i64 y.seq, .int .i64 y.kind, .slice B' m' d'] 28)) := (by with_reducible (repeat (first | exact Ext.rfl_ _ | assumption | refine Ext.drew ?_ | refine Ext.drewN ?_ _ | refine Ext.alloc ?_ _ | refine Ext.trans ?_ (by assumption))))
  obtain ⟨q0, q1, q2, q3, _, _, _, _⟩ := box4 (blk1 w (.cells #[.slice A' n' c', .int .i64 y.seq, .int .i64 y.kind, .slice B' m' d'] 28)) (Ext.rfl_ _)
  have hg1 := hx1.keeps _ _ _ hg
  have HK := Lib.hid (hk.ext hx1)
  have HY := Lib.hid (hyk.ext hx1)
  have HX := Lib.hid hx1
  clear hk hyk hx1 hg
  go_enter Try.func42, Try.ntmps42
  go_wp2_with fail
  refine (cmpKeys_any _ _ _ _ _ _ y.key k _ HY.out HK.out).mono ?_
  rintro e w' ⟨rfl, rfl⟩
  go_wp2
  go_ret
  exact ⟨ret_bool rfl, HX.out⟩



open Go.RowKit
attribute [local go_sem] Oper.semAt_some

/-- The blocks that are the iterator's own: from B on, up to its inner loop's two. -/
def ownZ (B Z : Nat) (T : Nat → Prop) (k : Nat) : Prop := T k ∨ (B ≤ k ∧ k < Z + 2)
theorem ownZ_ab {B Z : Nat} {T T' : Nat → Prop} {z : Nat} (hs : ∀ k, T k → T' k) (hn : ∀ k, T' k → T k ∨ z ≤ k) : (∀ k, ownZ B Z T k → ownZ B Z T' k) ∧ (∀ k, ownZ B Z T' k → ownZ B Z T k ∨ z ≤ k) :=
  ⟨fun k h => h.imp (hs k) id, fun k h => h.elim (fun h => (hn k h).imp .inl id) (fun h => .inl (.inr h))⟩

structure FroI (J : List Ent → (Nat → Prop) → World → Prop) (S : Nat → Prop) (W : World) (Z l : Nat) (pre : List Ent) (T : Nat → Prop) (Wc : World) : Prop where
  j : J pre (ownZ W.heap.size Z T) Wc
  y : Wc.cell? ⟨W.heap.size, 0, none⟩ = some (.func (.yield l) #[] #[])
  keep : Kept (fun k => k < W.heap.size ∧ ¬ S k) W Wc
  size : Z ≤ Wc.heap.size
  t : ∀ k, T k → Z ≤ k

theorem FroI.ab {J : List Ent → (Nat → Prop) → World → Prop} (hJ : AbJ J) (S : Nat → Prop) (W : World) {Z l : Nat} (hZ : W.heap.size < Z) : AbI Z (FroI J S W Z l) := by
  intro pre T T' Wc W' h hk hs hn
  have hz := h.size
  refine ⟨hJ _ _ _ _ _ h.j (hk.mono fun k hx => ⟨fun h' => hx (.inl h'), fun h' => hx (.inr (by omega)), fun h' => hx (.inr (by omega))⟩) (ownZ_ab hs hn).1 (ownZ_ab hs hn).2, ?_, ?_, ?_, ?_⟩
  · exact hk.cell h.y ⟨fun h' => by have h2 := h.t _ h'; dsimp only at h2; omega, by dsimp only; omega, by dsimp only; omega⟩
  · exact h.keep.trans (hk.mono fun k hx => ⟨fun h' => by have := h.t _ h'; omega, by omega, by omega⟩)
  · exact Nat.le_trans hz hk.size
  · intro k h'
    rcases hn k h' with h' | h'
    · exact h.t k h'
    · omega

/-- The entries from a key on. -/
def froL (xs : List Ent) (k : Bs) : List Ent := xs.dropWhile fun y => decide (cmpK y.key k < 0)

theorem key_mono {xs : List Ent} (h : xs.Pairwise fun a b => cmpE a b < 0) (k : Bs) : ∀ i j (hi : i < xs.length) (hj : j < xs.length), i ≤ j → decide (cmpK xs[j].key k < 0) = true → decide (cmpK xs[i].key k < 0) = true := by
  intro i j hi hj hij hp
  have h1 := pw_at h hi hj hij
  simp at *
  have hk : cmpK xs[i].key xs[j].key ≤ 0 := by
    unfold cmpE orI at h1
    split at h1
    · omega
    · omega
  have h3 := cmpK_trans _ _ _ hk (by omega : cmpK xs[j].key k ≤ 0)
  rcases cmpK_range xs[i].key k with h | h | h
  · omega
  · have h4 := cmpK_trans k xs[i].key xs[j].key (by rw [cmpK_anti xs[i].key k]; omega) hk
    have h5 := cmpK_anti xs[j].key k
    omega
  · omega

set_option maxRecDepth 100000 in
set_option maxHeartbeats 4000000 in
theorem bfrom1_seq (gb gk : Nat) (A : Option Addr) (n c : Nat) (b : Bs) (B : Option Addr) (m d : Nat) (k : Bs) (S : Nat → Prop) (w00 w0 : World) (hb : Rd w00 A n b) (hnc : n ≤ c) (hn : n ≤ B40) (hk : Rd w00 B m k) (h0 : Ext w00 w0) (hS : ∀ k, S k → w00.heap.size ≤ k)
    (hgb : w0.cell? ⟨gb, 0, none⟩ = some (.slice A n c)) (hgk : w0.cell? ⟨gk, 0, none⟩ = some (.slice B m d)) :
    SeqT Try.prog 41 #[.pointer (some ⟨gb, 0, none⟩), .pointer (some ⟨gk, 0, none⟩)] OkN S (froL (opE b) k) w0 := by
  intro num l J Jx W hW hJ hJx hY hJ0
  have h0W := h0.trans hW
  have hbW := hW.keeps' hgb
  have hkW := hW.keeps' hgk
  have hbl := cell_lt hbW
  have hlen := opE_len b
  have hup := opE_up b
  have HB := Lib.hid hb
  have HK := Lib.hid hk
  have HKW := Lib.hid hkW
  obtain ⟨xs, hxs⟩ : ∃ xs, xs = opE b := ⟨_, rfl⟩
  rw [← hxs] at hlen hup ⊢
  have HXS := Lib.hid hxs
  have HUP := Lib.hid hup
  clear hb hk hgb hgk hkW hxs hup
  refine callsIn_of_wp_marks Try.func41 rfl trivial ?_ rfl
  simp only [Try.ntmps41, List.size_toArray, List.length_cons, List.length_nil, Nat.reduceAdd, Nat.reduceSub, Array.replicate_succ, Array.replicate_zero, List.push_toArray, List.append_toArray, List.nil_append, List.cons_append]
  gi_wp2
  refine ⟨trivial, fun h => (by simp [Fence.wide] at h), ?_⟩
  refine (callsIn_wide.2 (open_blk A n c b _ (HB.out.ext (h0W.trans (by with_reducible (repeat (first | exact Ext.rfl_ _ | assumption | refine Ext.drew ?_ | refine Ext.drewN ?_ _ | refine Ext.alloc ?_ _ | refine Ext.trans ?_ (by assumption)))))) hnc hn)).mono ?_
  rintro e w1 ⟨vl, va, rfl, hF, _, hw1⟩
  rw [← HXS.out] at hF
  have X1 := Lib.hid (show Ext W w1 from (by with_reducible (repeat (first | exact Ext.rfl_ _ | assumption | refine Ext.drew ?_ | refine Ext.drewN ?_ _ | refine Ext.alloc ?_ _ | refine Ext.trans ?_ (by assumption)))))
  have hF' := hF.low (base' := W.heap.size) (by rw [World.size_alloc]; omega)
  obtain ⟨Al, cl, rfl, hcl, hq, hAl⟩ := hF'.rdq (by unfold B41; omega)
  have HQ := Lib.hid hq
  have y1 := hw1.keeps _ _ _ (cnew W (Value.func (Fn.yield l) #[] #[]) 66).1
  have HY1 := Lib.hid y1
  clear hF hF' hq y1 hw1
  gi_wp2
  refine ⟨trivial, fun h => (by simp [Fence.wide] at h), ?_⟩
  refine (callsIn_wide.2 (find_any (fun y => decide (cmpK y.key k < 0)) 42 #[.pointer (some ⟨gk, 0, none⟩)] Al _ cl xs w1 (enters_of Try.func42 (by kernel_rfl) rfl) HQ.out.rdl hcl (key_mono HUP.out k) ?_)).mono ?_
  · intro v x wv hWv hv
    exact bfrom11_any gk B m d v k x wv ((X1.out.trans hWv).keeps _ _ _ HKW.out) (HK.out.ext (h0W.trans (X1.out.trans hWv))) hv
  rintro e w4 ⟨rfl, hw4⟩
  have X4 := Lib.hid (X1.out.trans hw4)
  have HQ4 := Lib.hid (HQ.out.ext hw4)
  have HY4 := Lib.hid (hw4.keeps _ _ _ HY1.out)
  clear hw4 HQ HY1 X1
  obtain ⟨j, hj⟩ : ∃ j, j = (xs.takeWhile fun y => decide (cmpK y.key k < 0)).length := ⟨_, rfl⟩
  have hjn : j ≤ xs.length := by rw [hj]; exact (List.takeWhile_sublist _).length_le
  have hfro : froL xs k = xs.drop j := by unfold froL; rw [dropWhile_at, ← hj]
  rw [← hj]
  have HFR := Lib.hid hfro
  clear hj hfro
  have hjni : (j : Int) ≤ (xs.length : Int) := by omega
  have hjcl : j ≤ cl := by omega
  have hcli : (xs.length : Int) ≤ (cl : Int) := by omega
  have hqd : ∀ A', (A' = Al ∧ j = cl) ∨ A' = Option.map (fun x => x.add (j * 4)) Al → RdQ (fun k => W.heap.size ≤ k) w4 A' (xs.length - j) (xs.drop j) := by
    intro A' hA'
    rcases Nat.eq_zero_or_pos (xs.length - j) with h0 | h0
    · rw [h0, List.drop_eq_nil_of_le (by omega)]
      exact RdQ.nil _ _ _
    · rcases hA' with ⟨rfl, h⟩ | rfl
      · omega
      · obtain ⟨g, rfl⟩ : ∃ g, Al = some ⟨g, 0, none⟩ := by
          rcases hAl with rfl | h
          · obtain ⟨_, _, h, _⟩ := HQ4.out.rdl.2.2 (by omega); cases h
          · exact h
        have := HQ4.out.drop j hjn
        rw [Nat.zero_add] at this
        by_cases hj0 : j * 4 = 0
        · rw [hj0] at this; simpa [Addr.add, hj0] using this
        · simpa [Addr.add, hj0] using this
  have HQD := Lib.hid hqd
  clear hqd HQ4
  have hyl : W.heap.size < w4.heap.size := cell_lt HY4.out
  by_cases hjc : j = cl
  case' neg =>
    have hjc2 : ¬ cl = j := fun h => hjc h.symm
    gi_wp2
    refine ⟨trivial, fun h => (by simp [Fence.wide] at h), ?_⟩
    refine (callsIn_wide.2 (values_any _ _ _ _)).mono ?_
    rintro e w' ⟨rfl, rfl⟩
    obtain ⟨W5, hW5⟩ : ∃ W5, W5 = w4.alloc (.cells #[.slice (Option.map (fun x => x.add (j * 4)) Al) (xs.length - j) (cl - j)] 37) := ⟨_, rfl⟩
    have hx5 : Ext w4 W5 := by rw [hW5]; exact (by with_reducible (repeat (first | exact Ext.rfl_ _ | assumption | refine Ext.drew ?_ | refine Ext.drewN ?_ _ | refine Ext.alloc ?_ _ | refine Ext.trans ?_ (by assumption))))
    have hz5 : W5.heap.size = w4.heap.size + 1 := by rw [hW5, World.size_alloc]
    have hv5 : ∃ A' n' c', n' ≤ c' ∧ W5.cell? ⟨w4.heap.size, 0, none⟩ = some (.slice A' n' c') ∧ RdQ (fun k => W.heap.size ≤ k) W5 A' n' (xs.drop j) := ⟨_, _, _, Nat.sub_le_sub_right hcl j, by rw [hW5]; exact (cnew _ _ _).1, (HQD.out _ (.inr rfl)).ext hx5⟩
    rw [← hW5]
    clear hW5
  case' pos =>
    subst hjc
    have hz : xs.length - j = 0 := by omega
    gi_wp2
    refine ⟨trivial, fun h => (by simp [Fence.wide] at h), ?_⟩
    refine (callsIn_wide.2 (values_any _ _ _ _)).mono ?_
    rintro e w' ⟨rfl, rfl⟩
    obtain ⟨W5, hW5⟩ : ∃ W5, W5 = w4.alloc (.cells #[.slice Al 0 0] 37) := ⟨_, rfl⟩
    have hx5 : Ext w4 W5 := by rw [hW5]; exact (by with_reducible (repeat (first | exact Ext.rfl_ _ | assumption | refine Ext.drew ?_ | refine Ext.drewN ?_ _ | refine Ext.alloc ?_ _ | refine Ext.trans ?_ (by assumption))))
    have hz5 : W5.heap.size = w4.heap.size + 1 := by rw [hW5, World.size_alloc]
    have hv5 : ∃ A' n' c', n' ≤ c' ∧ W5.cell? ⟨w4.heap.size, 0, none⟩ = some (.slice A' n' c') ∧ RdQ (fun k => W.heap.size ≤ k) W5 A' n' (xs.drop j) := ⟨_, _, _, Nat.le_refl 0, by rw [hW5]; exact (cnew _ _ _).1, by
      have := (HQD.out Al (.inl (by simp))).ext hx5
      rwa [hz] at this⟩
    rw [← hW5]
    clear hW5
  all_goals
    obtain ⟨A', n', c', hnc', hv5, hq5⟩ := hv5
    have y5 := hx5.keeps _ _ _ HY4.out
    have x05 : Ext W W5 := X4.out.trans hx5
    have hwz : W.heap.size < W5.heap.size := by omega
    have hw45 : w4.heap.size < W5.heap.size := by omega
    clear hz5
    gi_wp2
    refine range_law (gf := 67) (lb := #[.pointer (some ⟨w4.heap.size, 0, none⟩)]) rfl (enters_of Try.func67 (by kernel_rfl) rfl)
      (values1_seq (fun k => W.heap.size ≤ k) A' n' c' w4.heap.size (xs.drop j) (fun k => S k ∧ k < W.heap.size) W5 hq5 hnc' ?_ hv5 ?_) (Ext.rfl_ _) ?_ ?_
      (FroI J S W W5.heap.size l) (fun code pre T Wc => code = .ret ∧ Jx pre (ownZ W.heap.size W5.heap.size T) Wc) ?_ ?_ ?_ ?_ ?_ ?_
    · rintro k hk ⟨_, h⟩; omega
    · rintro ⟨_, h⟩; omega
    · rintro x vs W ⟨v, rfl, _⟩; rfl
    · rintro k ⟨_, h⟩; omega
    · exact FroI.ab hJ S W (by omega)
    · intro code
      rintro pre T T' Wc W' ⟨h1, h2⟩ hk hs hn
      exact ⟨h1, hJx _ _ _ _ _ h2 (hk.mono fun k hx => ⟨fun h' => hx (.inl h'), fun h' => hx (.inr (by omega)), fun h' => hx (.inr (by omega))⟩) (ownZ_ab hs hn).1 (ownZ_ab hs hn).2⟩
    · exact ⟨hJ _ _ _ _ _ hJ0 (Kept.of_ext x05) (fun _ h => h.elim) (fun k h => .inr (h.elim (fun h => h.elim) (fun h => h.1))), y5, Kept.of_ext x05, Nat.le_refl _, fun _ h => h.elim⟩
    · rintro l2 m2 pre x vs T Wc rfl hI hpre ⟨v, rfl, hrd⟩ hT hz hlo
      have HE := Lib.hid hrd
      obtain ⟨B1, nb, cb, B', nb', cb', rfl, _⟩ := hrd
      have hyc := hI.y
      have HI := Lib.hid hI
      clear hI
      simp only [List.zip_toArray, List.zip_cons_cons, List.zip_nil_right, List.foldl_toArray', List.foldl_cons, List.foldl_nil]
      gi_wp2
      have xb : Ext Wc (Wc.alloc (.cells #[.slice B1 nb cb, .int .i64 x.seq, .int .i64 x.kind, .slice B' nb' cb'] 28)) := (by with_reducible (repeat (first | exact Ext.rfl_ _ | assumption | refine Ext.drew ?_ | refine Ext.drewN ?_ _ | refine Ext.alloc ?_ _ | refine Ext.trans ?_ (by assumption))))
      refine ⟨xb, fun W2 kp2 => ?_⟩
      have hbx := kp2.block Wc.heap.size (by simp) (by omega)
      rw [blk1] at hbx
      have y2 := kp2.cell (xb.keeps _ _ _ hyc) (by dsimp only; omega)
      have hlo2 : ∃ r, (Wc.alloc (.cells #[.slice B1 nb cb, .int .i64 x.seq, .int .i64 x.kind, .slice B' nb' cb'] 28)).heap[W5.heap.size + 1]? = some (.loop r) := hlo.imp fun r h => ((Ext.below xb).block _ (Array.getElem?_eq_some_iff.1 h).1).trans h
      have hE2 := (HE.out.ext xb).kept kp2 hlo2
      obtain ⟨q0, q1, q2, q3, g0, g1, g2, g3⟩ := box4 hbx (Ext.rfl_ W2)
      have HK2 := Lib.hid (((Kept.of_ext (X := fun k => k ≠ W5.heap.size + 1) xb)).trans kp2)
      have HE2 := Lib.hid hE2
      have hz2 := HK2.out.size
      clear kp2 xb hbx hyc hlo hlo2 hE2 HE
      gi_wp2
      obtain ⟨fn, tmps, assign, body, hy, hR⟩ := hY pre x #[.agg #[.slice B1 nb cb, .int .i64 x.seq, .int .i64 x.kind, .slice B' nb' cb']] (ownZ W.heap.size W5.heap.size T) W2 (m2 - 1) (hJ _ _ _ Wc W2 HI.out.j (HK2.out.mono fun k hk h' => hk (.inr (by omega))) (fun _ h => h) (fun _ h => .inl h)) (by rw [← HXS.out, HFR.out]; exact hpre) ⟨_, rfl, HE2.out⟩ (fun k hk => hk.elim (fun h => ⟨by have := hT k h; omega, by have := hT k h; omega⟩) (fun h => ⟨h.1, by omega⟩)) (by omega)
      rw [hy]
      refine ⟨fun h => (by simp [Fence.wide] at h), ?_⟩
      refine RoundIn.mono hR ?_
      rintro e W4 hE
      rcases hE with ⟨rfl, hJ4, hk4⟩ | ⟨rfl, hJ4, hk4⟩
      · have HJ4 := Lib.hid hJ4
        have HK4 := Lib.hid hk4
        have hz4 := hk4.size
        clear hJ4 hk4 hy hR
        gi_wp2
        refine ⟨⟨HJ4.out, HK4.out.cell y2 (.inl (.inr ⟨Nat.le_refl _, by dsimp only; omega⟩)), ?_, by omega, HI.out.t⟩, ?_⟩
        · exact (HI.out.keep.trans (HK2.out.mono fun k h => by have := h.1; omega)).trans (HK4.out.mono fun k h => .inr h)
        · refine HK4.out.mono fun k h => ?_
          rcases h with h | h
          · exact .inl (.inl h)
          · by_cases hlt : k < W.heap.size
            · exact .inr ⟨hlt, fun h' => h.2 ⟨h', hlt⟩⟩
            · exact .inl (.inr ⟨by omega, h.1⟩)
      · have HJ4 := Lib.hid hJ4
        have HK4 := Lib.hid hk4
        clear hJ4 hk4 hy hR
        gi_wp2
        refine ⟨⟨rfl, HJ4.out⟩, ?_⟩
        refine HK4.out.mono fun k h => ?_
        rcases h with h | h
        · exact .inl h
        · exact .inr ⟨by omega, by omega⟩
    · intro T Wd hI hD
      gi_wp2
      refine ⟨by simp, .inl ⟨_, _, rfl, run_takeDeferred hD, ?_⟩⟩
      exact ⟨_, results_none rfl _ _ _, ⟨_, rfl⟩, .inl ⟨ownZ W.heap.size W5.heap.size T, by rw [HFR.out]; exact hJ _ _ _ _ _ hI.j (Kept.putObj _ _ _ _ (fun h => h (.inr (by omega)))) (fun _ h => h) (fun _ h => .inl h)⟩⟩
    · rintro code pre T Wd hp ⟨rfl, hI⟩ hD
      gi_wp2
      refine ⟨by simp, .inl ⟨_, _, rfl, run_takeDeferred hD, ?_⟩⟩
      exact ⟨_, results_none rfl _ _ _, ⟨_, rfl⟩, .inr ⟨pre, ownZ W.heap.size W5.heap.size T, by rw [HFR.out]; exact hp, hJx _ _ _ _ _ hI (Kept.putObj _ _ _ _ (fun h => h (.inr (by omega)))) (fun _ h => h) (fun _ h => .inl h)⟩⟩
end Go.Proofs.Ythfhococglbpoaa
