/- WalOdd: plain rows; the walk. Conditions: none. -/
import Derived.Test.YthdahmicjlplcaaBatK
namespace Go.Proofs.Ythdahmicjlplcaa
set_option linter.unusedSimpArgs false
set_option linter.unusedVariables false
open Go.RowKit

def kC : Bs := wrW (bt 5 [97])
theorem kmC : mayW (bt 5 [97]) = true := by decide
theorem klC : (payB (bt 5 [97])).length = 8 := by decide
theorem kfC : mayF (payB (bt 5 [97])).length = true := by rw [klC]; decide
theorem keC : kC = frmB (payB (bt 5 [97])) := by unfold kC wrW; rw [if_pos ⟨kmC, kfC⟩]
theorem knC5 : wrWN (bt 5 [97]) = 0 := by unfold wrWN; rw [if_pos kmC, if_pos kfC]
theorem kzC : kC.length = 16 := by rw [keC, frm_len, klC]
/-- Behind one batch: a frame that is none, or a rest that is odd. -/
theorem kC1 : batW (kC ++ frmB [1]) = [bt 5 [97]] ∧ okW (kC ++ frmB [1]) = false ∧ sizeW (kC ++ frmB [1]) = 16 := by
  have hf : frs (kC ++ frmB [1]) = [payB (bt 5 [97]), [1]] := by
    have : kC ++ frmB [1] = frmB (payB (bt 5 [97])) ++ (frmB [1] ++ []) := by simp [keC]
    rw [this, frs_frm kfC, frs_frm (by decide), frs_no (by decide)]
  have hg : goW none (frs (kC ++ frmB [1])) = ([bt 5 [97]], false) := by
    rw [hf]
    exact GW.stop (p := [1]) ((GW.start _).step rfl (readW_pay kmC kfC) rfl) rfl (.inl (by decide))
  have hb := batW_of hg
  refine ⟨hb.1, by rw [hb.2.1]; rfl, ?_⟩
  rw [hb.2.2, hf]
  simp only [List.length_singleton, List.take_succ_cons, List.take_zero, endF, klC]
theorem kC0 : batW (kC ++ [0, 0, 0, 0, 0, 0, 0, 0]) = [bt 5 [97]] ∧ okW (kC ++ [0, 0, 0, 0, 0, 0, 0, 0]) = false ∧ sizeW (kC ++ [0, 0, 0, 0, 0, 0, 0, 0]) = 16 := by
  have hf : frs (kC ++ [0, 0, 0, 0, 0, 0, 0, 0]) = [payB (bt 5 [97])] := by
    rw [keC, frs_frm kfC, frs_no (by decide)]
  have hg : goW none (frs (kC ++ [0, 0, 0, 0, 0, 0, 0, 0])) = ([bt 5 [97]], true) := by
    rw [hf]
    exact ((GW.start _).step rfl (readW_pay kmC kfC) rfl).end_ rfl
  have hb := batW_of hg
  have hr : restF (kC ++ [0, 0, 0, 0, 0, 0, 0, 0]) = [0, 0, 0, 0, 0, 0, 0, 0] := by
    unfold restF
    rw [hf]
    have : endF [payB (bt 5 [97])] = kC.length := by rw [kzC]; simp only [endF, klC]
    rw [this, List.drop_left]
  have ho : oddF (kC ++ [0, 0, 0, 0, 0, 0, 0, 0]) = true := by
    unfold oddF
    rw [hr]
    decide
  refine ⟨hb.1, by rw [hb.2.1, ho]; rfl, ?_⟩
  rw [hb.2.2, hf]
  simp only [List.length_singleton, List.take_succ_cons, List.take_zero, endF, klC]
theorem kZ0 : batW (frmB [0, 1, 0]) = [] ∧ okW (frmB [0, 1, 0]) = false ∧ sizeW (frmB [0, 1, 0]) = 0 := by
  have hf : frs (frmB [0, 1, 0]) = [[0, 1, 0]] := by
    have : frmB [0, 1, 0] = frmB [0, 1, 0] ++ [] := by simp
    rw [this, frs_frm (by decide), frs_no (by decide)]
  have hg : goW none (frs (frmB [0, 1, 0])) = ([], false) := by
    rw [hf]
    exact (GW.start _).stop (p := [0, 1, 0]) rfl (.inl (by decide))
  have hb := batW_of hg
  refine ⟨hb.1, by rw [hb.2.1]; rfl, ?_⟩
  rw [hb.2.2]
  rfl
def z64 : Bs := List.replicate 65536 0
theorem z64_len : z64.length = 65536 := List.length_replicate ..
attribute [irreducible] z64
/-- The entries of the batch that is too long. -/
def bigE (k : Nat) : Ent := ⟨[UInt8.ofNat k], 1, 1, z64⟩
def bigL (k : Nat) : List Ent := (List.range k).map bigE
theorem bigL_succ (k : Nat) : bigL (k + 1) = bigL k ++ [bigE k] := by simp [bigL, List.range_succ]
theorem bigE_may (k : Nat) : mayE (bigE k) = true := by
  rw [mayE_iff]
  exact ⟨Nat.le_refl 1, show 1 ≤ 32 by decide, show (1 : Int) ≤ 1 by decide, show (1 : Int) ≤ 2147483647 by decide, Nat.le_of_eq z64_len, .inl rfl⟩
theorem bigL_may (k : Nat) : allMay (bigL k) = true := by
  unfold allMay bigL
  rw [List.all_map, List.all_eq_true]
  exact fun x _ => bigE_may x
theorem big_may : mayW ⟨1, bigL 17⟩ = true := mayW_iff.2 ⟨by decide, by decide, by simp [bigL], bigL_may 17⟩
theorem bigE_len (k : Nat) : 65536 ≤ (lstE (bigE k)).length := by
  unfold lstE wrE
  rw [if_pos (bigE_may k)]
  unfold entB
  rw [if_pos (show (bigE k).kind = 1 from rfl)]
  have h : (bigE k).val.length = 65536 := z64_len
  unfold bytB
  simp only [List.length_append]
  omega
theorem bigL_len (k : Nat) : 65536 * k ≤ ((bigL k).map lstE).flatten.length := by
  induction k with
  | zero => simp
  | succ k ih =>
    rw [bigL_succ, List.map_append, List.flatten_append, List.length_append]
    have := bigE_len k
    simp only [List.map_cons, List.map_nil, List.flatten_cons, List.flatten_nil, List.append_nil]
    omega
theorem big_pay : 1048576 < (payB ⟨1, bigL 17⟩).length := by
  unfold payB bytB lisB
  have := bigL_len 17
  simp only [List.length_append]
  omega
theorem big_n : wrWN ⟨1, bigL 17⟩ = 3 := by
  unfold wrWN
  rw [if_pos big_may, if_neg]
  have := big_pay
  unfold mayF
  simp
  omega
theorem big_w : wrW ⟨1, bigL 17⟩ = [] := by
  unfold wrW
  rw [if_neg]
  rintro ⟨_, h⟩
  have := big_pay
  unfold mayF at h
  simp at h
  omega

theorem rdlit {w : World} {cs : List Value} {x : Bs} (h : cs = byV x) : Rd (w.alloc (.cells cs.toArray 5)) (some ⟨w.heap.size, 0, none⟩) x.length x :=
  ⟨rfl, fun _ => ⟨_, 0, rfl, fun j hj => by
    have hb := heap_alloc_new w (.cells cs.toArray 5)
    unfold World.cell?
    simp only [hb]
    subst h
    simp [byV, hj]⟩⟩
theorem kcat1 : (kC ++ frmB [1]).length = 25 := by rw [List.length_append, kzC, frm_len]; rfl
theorem kcat0 : (kC ++ [0, 0, 0, 0, 0, 0, 0, 0]).length = 24 := by rw [List.length_append, kzC]; rfl
theorem kcatz : (frmB [0, 1, 0]).length = 11 := by rw [frm_len]; rfl

def zc : Array Value := madeCells #[Value.int .u8 0] 65536
theorem zc_at (j : Nat) (h : j < 65536) : zc[j]? = some (.int .u8 0) := by
  unfold zc madeCells
  rw [Array.getElem?_map, Array.getElem?_range]
  simp [h, Nat.mod_one]
attribute [irreducible] zc
theorem z64_at (j : Nat) (h : j < z64.length) : z64[j] = 0 := by
  have : z64[j]? = some 0 := by
    unfold z64
    rw [List.getElem?_replicate, if_pos (by rw [z64_len] at h; exact h)]
  rw [List.getElem?_eq_getElem h] at this
  exact Option.some.inj this
theorem make64 (w : World) : (Instr.makeSlice 29 (.int .i64 65536) (.int .i64 65536)).run Try.prog w = .ok (.slice (some ⟨w.heap.size, 0, none⟩) 65536 65536) (w.alloc (.cells zc 5)) := by
  obtain ⟨i0, hi, hz0, hz1, hz2⟩ := info_parts Try.info5x
  have h := run_makeSlice (P := Try.prog) w 29 5 i0 _ Try.underlying29 hi hz0 .i64 .i64 65536 65536 (by decide) (by decide) (by rw [hz1]; decide) (by rw [hz2]; decide) (by decide)
  rw [hz1] at h
  rw [h]
  unfold zc
  rfl
theorem bigKey {W : World} {g k : Nat} (hk : k < 17) (h : W.heap[g]? = some (.cells #[.int .u8 (k : Nat)] 5 (0, 0))) : Rd W (some ⟨g, 0, none⟩) 1 [UInt8.ofNat k] :=
  ⟨rfl, fun _ => ⟨_, 0, rfl, fun j hj => by
    obtain rfl : j = 0 := by simp at hj; exact hj
    unfold World.cell?
    simp only [h]
    have : (UInt8.ofNat k).toNat = k := by simp; omega
    simp [this]⟩⟩
theorem bigVal {W : World} {g : Nat} (h : W.heap[g]? = some (.cells zc 5 (0, 0))) : Rd W (some ⟨g, 0, none⟩) 65536 z64 :=
  ⟨z64_len, fun _ => ⟨_, 0, rfl, fun j hj => by
    unfold World.cell?
    simp only [h]
    rw [Nat.zero_add, zc_at j (by rw [z64_len] at hj; exact hj), z64_at j hj]
    rfl⟩⟩
theorem bigElt {W : World} {base gk gv k : Nat} (hk : k < 17) (h1 : W.heap[gk]? = some (.cells #[.int .u8 (k : Nat)] 5 (0, 0))) (h2 : W.heap[gv]? = some (.cells zc 5 (0, 0))) :
    Elt W base ⟨some ⟨gk, 0, none⟩, 1, 1, some ⟨gv, 0, none⟩, 65536, 65536⟩ (bigE k) :=
  ⟨⟨_, 1, 1, _, 65536, 65536, rfl, bigKey hk h1, bigVal h2, Nat.le_refl _, by decide, Nat.le_refl _, by decide⟩, fun _ a e => by cases e; exact .inr ⟨_, _, h1⟩, fun _ a e => by cases e; exact .inr ⟨_, _, h2⟩⟩

theorem alloc_at {w : World} {o : Obj} {g : Nat} (h : w.heap.size = g) : (w.alloc o).heap[g]? = some o := by rw [← h]; exact heap_alloc_new w o
theorem RdLa.drewN {w : World} {base n : Nat} {A : Option Addr} {xs : List Ent} (h : RdLa w base A n xs) : RdLa w.drew base A n xs := h
theorem bigRow1 (wr : World) {base k : Nat} (hk : k < 17) : RdLa (((wr.alloc (.cells #[.int .u8 (k : Nat)] 5)).alloc (.cells zc 5)).alloc (.cells #[.slice (some ⟨wr.heap.size, 0, none⟩) 1 1, .int .i64 1, .int .i64 1, .slice (some ⟨wr.heap.size + 1, 0, none⟩) 65536 65536] 47)).drew base (some ⟨wr.heap.size + 1 + 1, 0, none⟩) 1 [bigE k] := by
  have h := RdLa.one (w := (wr.alloc (.cells #[.int .u8 (k : Nat)] 5)).alloc (.cells zc 5)) (base := base) 47 (bigElt hk (gk := wr.heap.size) (gv := wr.heap.size + 1) (Ext.blk (Ext.alloc (Ext.rfl_ _) _) (alloc_at rfl)) (alloc_at (by rw [World.size_alloc])))
  rw [World.size_alloc, World.size_alloc] at h
  exact RdLa.drewN h
theorem bigRow2 (wr : World) {base k : Nat} (hk : k < 17) : RdLa (((wr.alloc (.cells zc 5)).alloc (.cells #[.int .u8 (k : Nat)] 5)).alloc (.cells #[.slice (some ⟨wr.heap.size + 1, 0, none⟩) 1 1, .int .i64 1, .int .i64 1, .slice (some ⟨wr.heap.size, 0, none⟩) 65536 65536] 47)).drew base (some ⟨wr.heap.size + 1 + 1, 0, none⟩) 1 [bigE k] := by
  have h := RdLa.one (w := (wr.alloc (.cells zc 5)).alloc (.cells #[.int .u8 (k : Nat)] 5)) (base := base) 47 (bigElt hk (gk := wr.heap.size + 1) (gv := wr.heap.size) (alloc_at (by rw [World.size_alloc])) (Ext.blk (Ext.alloc (Ext.rfl_ _) _) (alloc_at rfl)))
  rw [World.size_alloc, World.size_alloc] at h
  exact RdLa.drewN h
theorem bigL_length (k : Nat) : (bigL k).length = k := by simp [bigL]
theorem set_box {w : World} {g : Nat} {t : TypeId} {a b : Value} (h : w.heap[g]? = some (.cells #[a, b] t (0, 0))) (u : Value) : (w.setCell ⟨g, 1, none⟩ u).heap[g]? = some (.cells #[a, u] t (0, 0)) := by
  simp [World.setCell, Array.getElem?_modify, h]

set_option maxRecDepth 100000 in
set_option maxHeartbeats 8000000 in
theorem odd_walk (w : World) : Calls Try.prog 7 #[] w fun e w' => e = .returned (.bool true) ∧ Ext w w' := by
  go_enter Try.func7, Try.ntmps7
  go_wp2_with fail
  refine (lbatch1_any 5 [97] _ (by decide) (by decide)).mono ?_
  rintro e w1 ⟨u1, rfl, hu1, hw1⟩
  obtain ⟨A1, n1, c1, rfl, _⟩ := id hu1
  go_wp2_with fail
  refine (wput_any _ (bt 5 [97]) _ hu1).mono ?_
  rintro e w2 ⟨v2, rfl, o2, hw2⟩
  rw [knC5]
  obtain ⟨Aa, na, ca, rfl, la, ra, _⟩ := o2.formN
  obtain rfl : na = 16 := ra.1.symm.trans kzC
  have RA := Lib.hid (show Rd w2 Aa 16 kC from ra)
  have X2 := Lib.hid (hw1.trans hw2)
  clear hu1 o2 ra hw1 hw2
  go_wp2_with (first | (at_builtin; refine wp_app rfl _ _ rfl w2.heap.size (.slice none 0 0) [] rfl (OwnB.nil _ _) Aa 16 ca kC rfl RA.out (by rw [kzC]; decide) (Nat.le_refl _) ?_; intro v3 w3 o3 g3; have X3 := Lib.hid (show Ext w2 w3 from Ext.growBy (Ext.rfl_ w2) g3 (OwnB.nil _ _) (Nat.le_refl _)); have O3 := Lib.hid o3; clear o3 g3))
  have x3a : Ext w3 (w3.alloc (.cells #[.int .u8 1] 5)) := (by with_reducible (repeat (first | exact Ext.rfl_ _ | assumption | refine Ext.drew ?_ | refine Ext.drewN ?_ _ | refine Ext.alloc ?_ _ | refine Ext.trans ?_ (by assumption))))
  refine (rput4_any (some ⟨w3.heap.size, 0, none⟩) 1 1 [1] _ (rdlit (w := w3) (x := [1]) rfl) (by decide)).mono ?_
  rintro e w4 ⟨v4, rfl, o4, hw4⟩
  obtain ⟨A4, n4, c4, rfl, l4, r4, _⟩ := o4.formN
  obtain rfl : n4 = 9 := r4.1.symm.trans (by rw [frm_len]; rfl)
  have R4 := Lib.hid r4
  have X4 := Lib.hid (X3.out.trans (x3a.trans hw4))
  have O4 := Lib.hid (O3.out.ext (x3a.trans hw4))
  clear o4 r4 hw4 x3a O3 X3
  go_wp2_with (first | (at_builtin; refine wp_app rfl _ _ rfl w2.heap.size v3 ([] ++ kC) rfl O4.out A4 9 c4 (frmB [1]) rfl R4.out (by rw [List.nil_append, kzC, frm_len]; decide) X4.out.size ?_; intro v5 w5 o5 g5; have X5 := Lib.hid (show Ext w2 w5 from Ext.growBy X4.out g5 O4.out (Nat.le_refl _)); obtain ⟨A5, n5, c5, rfl, l5, r5, _⟩ := o5.formN; obtain rfl : n5 = 25 := (by rw [← r5.1, List.nil_append]; exact kcat1); have R5 := Lib.hid r5; clear o5 g5 r5))
  refine (wbatches_any A5 25 c5 (kC ++ frmB [1]) _ R5.out l5 (by decide)).mono ?_
  rintro e w6 ⟨v6, rfl, o6, hw6⟩
  rw [kC1.1] at o6
  rw [kC1.2.1, kC1.2.2]
  obtain ⟨A6, n6, c6, rfl, l6, r6⟩ := o6.formN (by decide)
  obtain rfl : n6 = 1 := r6.1.symm
  have X6 := Lib.hid (X5.out.trans hw6)
  clear o6 r6 hw6 O4 X4 R4 R5 X5
  go_wp2_with (first | (at_builtin; refine wp_app rfl _ _ rfl w6.heap.size (.slice none 0 0) [] rfl (OwnB.nil _ _) Aa 16 ca kC rfl (RA.out.ext X6.out) (by rw [kzC]; decide) (Nat.le_refl _) ?_; intro v7 w7 o7 g7; have X7 := Lib.hid (show Ext w6 w7 from Ext.growBy (Ext.rfl_ w6) g7 (OwnB.nil _ _) (Nat.le_refl _)); have O7 := Lib.hid o7; have XA7 := Lib.hid (show Ext w7 (w7.alloc (.cells #[.int .u8 0, .int .u8 0, .int .u8 0, .int .u8 0, .int .u8 0, .int .u8 0, .int .u8 0, .int .u8 0] 5)) from (by with_reducible (repeat (first | exact Ext.rfl_ _ | assumption | refine Ext.drew ?_ | refine Ext.drewN ?_ _ | refine Ext.alloc ?_ _ | refine Ext.trans ?_ (by assumption))))); clear o7 g7) | (at_builtin; refine wp_app rfl _ _ rfl w6.heap.size v7 ([] ++ kC) rfl (O7.out.ext XA7.out) (some ⟨w7.heap.size, 0, none⟩) 8 8 [0, 0, 0, 0, 0, 0, 0, 0] rfl (rdlit (w := w7) (x := [0, 0, 0, 0, 0, 0, 0, 0]) rfl) (by rw [List.nil_append, kzC]; decide) (X7.out.trans XA7.out).size ?_; intro v8 w8 o8 g8; have X8 := Lib.hid (show Ext w6 w8 from Ext.growBy (X7.out.trans XA7.out) g8 (O7.out.ext XA7.out) (Nat.le_refl _)); obtain ⟨A8, n8, c8, rfl, l8, r8, _⟩ := o8.formN; obtain rfl : n8 = 24 := (by rw [← r8.1, List.nil_append]; exact kcat0); have R8 := Lib.hid r8; clear o8 g8 r8))
  refine (wbatches_any A8 24 c8 (kC ++ [0, 0, 0, 0, 0, 0, 0, 0]) _ R8.out l8 (by decide)).mono ?_
  rintro e w9 ⟨v9, rfl, o9, hw9⟩
  rw [kC0.1] at o9
  rw [kC0.2.1, kC0.2.2]
  obtain ⟨A9, n9, c9, rfl, l9, r9⟩ := o9.formN (by decide)
  obtain rfl : n9 = 1 := r9.1.symm
  have X9 := Lib.hid (X6.out.trans (X8.out.trans hw9))
  clear o9 r9 hw9 O7 X7 XA7 R8 X8 X6
  go_wp2_with fail
  have xza : Ext w9 (w9.alloc (.cells #[.int .u8 0, .int .u8 1, .int .u8 0] 5)) := (by with_reducible (repeat (first | exact Ext.rfl_ _ | assumption | refine Ext.drew ?_ | refine Ext.drewN ?_ _ | refine Ext.alloc ?_ _ | refine Ext.trans ?_ (by assumption))))
  refine (rput4_any (some ⟨w9.heap.size, 0, none⟩) 3 3 [0, 1, 0] _ (rdlit (w := w9) (x := [0, 1, 0]) rfl) (by decide)).mono ?_
  rintro e w10 ⟨v10, rfl, o10, hw10⟩
  obtain ⟨A10, n10, c10, rfl, l10, r10, _⟩ := o10.formN
  obtain rfl : n10 = 11 := r10.1.symm.trans kcatz
  go_wp2_with fail
  refine (wbatches_any A10 11 c10 (frmB [0, 1, 0]) _ r10 l10 (by decide)).mono ?_
  rintro e w11 ⟨v11, rfl, o11, hw11⟩
  rw [kZ0.1] at o11
  rw [kZ0.2.1, kZ0.2.2]
  obtain ⟨A11, n11, c11, rfl, l11, r11⟩ := o11.formN (by decide)
  have X11 := Lib.hid (show Ext w w11 from X2.out.trans (X9.out.trans (xza.trans (hw10.trans hw11))))
  clear o10 r10 hw10 o11 r11 hw11 xza X9 RA X2
  go_wp2
  have hB0 := heap_alloc_new w11 (.cells #[.int .i64 1, .slice none 0 0] 24)
  have x0 : Ext w11 (w11.alloc (.cells #[.int .i64 1, .slice none 0 0] 24)) := (by with_reducible (repeat (first | exact Ext.rfl_ _ | assumption | refine Ext.drew ?_ | refine Ext.drewN ?_ _ | refine Ext.alloc ?_ _ | refine Ext.trans ?_ (by assumption))))
  have hmk := make64
  go_loopw [16] (fun i wr => ∃ (k : Nat) (v : Value), i = .int .i64 k ∧ k ≤ 17 ∧ Hid (wr.heap[w11.heap.size]? = some (.cells #[.int .i64 1, v] 24 (0, 0))) ∧ Hid (OwnL wr (w11.heap.size + 1) v (bigL k)) ∧ Hid (Ext w11 wr)) (fun i _ => 17 - (intOf i).toNat)
  case atStart => exact ⟨0, _, rfl, by omega, Lib.hid hB0, Lib.hid (OwnL.nil _ _), Lib.hid x0⟩
  case round =>
    obtain ⟨k, v, rfl, hk, HB, HO, HE⟩ := hrel
    obtain ⟨Av, nv, cv, rfl, hcv, hrv, _⟩ := HO.out.formN (by rw [bigL_length]; unfold B41; omega)
    obtain ⟨q0, q1, f0, f1⟩ := box2 HB.out (Ext.rfl_ _)
    have hgz := cell_lt q0
    have HRV := Lib.hid hrv
    clear hrv
    by_cases hlt : k < 17
    · have hltI : (k : Int) < 17 := by omega
      have hwk : IntKind.u8.wrap (k : Int) = k := by rw [IntKind.wrap_u8]; omega
      have hq1 := (show Ext wr (((wr.alloc (.cells #[.int .u8 (k : Nat)] 5)).alloc (.cells zc 5)).alloc (.cells #[.slice (some ⟨wr.heap.size, 0, none⟩) 1 1, .int .i64 1, .int .i64 1, .slice (some ⟨wr.heap.size + 1, 0, none⟩) 65536 65536] 47)).drew from (by with_reducible (repeat (first | exact Ext.rfl_ _ | assumption | refine Ext.drew ?_ | refine Ext.drewN ?_ _ | refine Ext.alloc ?_ _ | refine Ext.trans ?_ (by assumption))))).keeps _ _ _ q1
      have hq2 := (show Ext wr (((wr.alloc (.cells zc 5)).alloc (.cells #[.int .u8 (k : Nat)] 5)).alloc (.cells #[.slice (some ⟨wr.heap.size + 1, 0, none⟩) 1 1, .int .i64 1, .int .i64 1, .slice (some ⟨wr.heap.size, 0, none⟩) 65536 65536] 47)).drew from (by with_reducible (repeat (first | exact Ext.rfl_ _ | assumption | refine Ext.drew ?_ | refine Ext.drewN ?_ _ | refine Ext.alloc ?_ _ | refine Ext.trans ?_ (by assumption))))).keeps _ _ _ q1
      go_wp2
      refine wp_region_any (by kernel_rfl) ?_
      (try (change wpAny _ _ _ _ _ _ _ (World.drew _)))
      refine wpAny_take (i := 0) (oi := ({ dst := some 58, op := Go.Op.fieldAddr 24 (Go.Operand.tmp 15) 1, type := 0, pos := "law.go:160", after := #[], guard := none } : Go.Oper)) (v := ?v1) rfl (by kernel_rfl) (by kernel_rfl) (by kernel_rfl) (fun _ _ _ h => h) (Or.inl ⟨by rfl, ?hy1⟩) ?rest1
      case hy1 => (intro w; go_simp; (try with_reducible rfl))
      (try simp only [Act.put, List.getElem_toArray, List.getElem_cons_zero, List.getElem_cons_succ, List.setIfInBounds_toArray, List.set_cons_zero, List.set_cons_succ])
      refine wpAny_take (i := 2) (oi := ({ dst := some 60, op := Go.Op.move (Go.Operand.tmp 16), type := 3, pos := "law.go:160", after := #[], guard := none } : Go.Oper)) (v := ?v2) rfl (by kernel_rfl) (by kernel_rfl) (by kernel_rfl) (fun _ _ _ h => h) (Or.inl ⟨by rfl, ?hy2⟩) ?rest2
      case hy2 => (intro w; go_simp; (try with_reducible rfl))
      (try simp only [Act.put, List.getElem_toArray, List.getElem_cons_zero, List.getElem_cons_succ, List.setIfInBounds_toArray, List.set_cons_zero, List.set_cons_succ])
      refine wpAny_take (i := 3) (oi := ({ dst := some 61, op := Go.Op.convert 3 5 (Go.Operand.tmp 60), type := 5, pos := "law.go:160", after := #[{ on := 2, ground := Go.Ground.data }], guard := none } : Go.Oper)) (v := ?v3) rfl (by kernel_rfl) (by kernel_rfl) (by kernel_rfl) (fun _ _ _ h => h) (Or.inl ⟨by rfl, ?hy3⟩) ?rest3
      case hy3 => (intro w; go_simp; (try with_reducible rfl))
      (try simp only [Act.put, List.getElem_toArray, List.getElem_cons_zero, List.getElem_cons_succ, List.setIfInBounds_toArray, List.set_cons_zero, List.set_cons_succ])
      refine wpAny_ready (rs := [1, 4, 5]) (by kernel_rfl) (by simp) ?_
      refine AllReady.cons (o := ({ dst := some 59, op := Go.Op.load 22 (Go.Operand.tmp 58), type := 22, pos := "law.go:160", after := #[{ on := 0, ground := Go.Ground.data }], guard := none } : Go.Oper)) rfl (fun K hK => ?one4) ?more4
      case' one4 =>
        go_simp
        refine hK _ _ ?_
        clear hK K
        (try simp only [Act.put, List.getElem_toArray, List.getElem_cons_zero, List.getElem_cons_succ, List.setIfInBounds_toArray, List.set_cons_zero, List.set_cons_succ])
        refine wpAny_ready (rs := [4, 5]) (by kernel_rfl) (by simp) ?_
        refine AllReady.cons (o := ({ dst := some 62, op := Go.Op.buildSlice 29 1 #[(0, Go.Operand.tmp 61)], type := 29, pos := "law.go:160", after := #[{ on := 3, ground := Go.Ground.data }], guard := none } : Go.Oper)) rfl (fun K hK => ?one5) ?more5
        case' one5 =>
          go_simp
          refine hK _ _ ?_
          clear hK K
          (try simp only [Act.put, List.getElem_toArray, List.getElem_cons_zero, List.getElem_cons_succ, List.setIfInBounds_toArray, List.set_cons_zero, List.set_cons_succ])
          refine wpAny_ready (rs := [5]) (by kernel_rfl) (by simp) ?_
          refine AllReady.cons (o := ({ dst := some 63, op := Go.Op.makeSlice 29 (Go.Operand.const (Go.Value.int Go.IntKind.i64 65536)) (Go.Operand.const (Go.Value.int Go.IntKind.i64 65536)), type := 29, pos := "law.go:160", after := #[], guard := none } : Go.Oper)) rfl (fun K hK => ?_) AllReady.nil
          go_simp
          refine hK _ _ ?_
          clear hK K
          (try simp only [Act.put, List.getElem_toArray, List.getElem_cons_zero, List.getElem_cons_succ, List.setIfInBounds_toArray, List.set_cons_zero, List.set_cons_succ])
          refine wpAny_ready (rs := [6]) (by kernel_rfl) (by simp) ?_
          refine AllReady.cons (o := ({ dst := some 64, op := Go.Op.build 47 #[(0, Go.Operand.tmp 62), (1, Go.Operand.const (Go.Value.int Go.IntKind.i64 1)), (2, Go.Operand.const (Go.Value.int Go.IntKind.i64 1)), (3, Go.Operand.tmp 63)], type := 47, pos := "law.go:160", after := #[{ on := 4, ground := Go.Ground.data }, { on := 5, ground := Go.Ground.data }], guard := none } : Go.Oper)) rfl (fun K hK => ?_) AllReady.nil
          go_simp
          refine hK _ _ ?_
          clear hK K
          (try simp only [Act.put, List.getElem_toArray, List.getElem_cons_zero, List.getElem_cons_succ, List.setIfInBounds_toArray, List.set_cons_zero, List.set_cons_succ])
          refine wpAny_ready (rs := [7]) (by kernel_rfl) (by simp) ?_
          refine AllReady.cons (o := ({ dst := some 65, op := Go.Op.buildSlice 22 1 #[(0, Go.Operand.tmp 64)], type := 22, pos := "law.go:160", after := #[{ on := 6, ground := Go.Ground.data }], guard := none } : Go.Oper)) rfl (fun K hK => ?_) AllReady.nil
          go_simp
          refine hK _ _ ?_
          clear hK K
          (try simp only [Act.put, List.getElem_toArray, List.getElem_cons_zero, List.getElem_cons_succ, List.setIfInBounds_toArray, List.set_cons_zero, List.set_cons_succ])
          refine wpAny_ready (rs := [8]) (by kernel_rfl) (by simp) ?_
          refine AllReady.cons (o := ({ dst := some 66, op := Go.Op.call { callee := Go.Callee.builtin Go.Builtin.append, args := #[Go.Operand.tmp 59, Go.Operand.tmp 65], argTypes := #[22, 22] }, type := 22, pos := "law.go:160", after := #[{ on := 1, ground := Go.Ground.data }, { on := 7, ground := Go.Ground.data }], guard := none } : Go.Oper)) rfl (fun K hK => ?_) AllReady.nil
          refine step_appL rfl _ _ rfl (w11.heap.size + 1) (.slice Av nv cv) (bigL k) rfl (HO.out.ext (by with_reducible (repeat (first | exact Ext.rfl_ _ | assumption | refine Ext.drew ?_ | refine Ext.drewN ?_ _ | refine Ext.alloc ?_ _ | refine Ext.trans ?_ (by assumption))))) _ 1 1 [bigE k] rfl (by first | exact bigRow1 wr hlt | exact bigRow2 wr hlt) (by rw [bigL_length]; simp; unfold B41; omega) (by simp; omega) ?_; intro v' w' o' g' _; obtain ⟨Av', nv', cv', rfl, _⟩ := o'.formN (by rw [List.length_append, bigL_length]; simp; unfold B41; omega); have hb' := (g'.block w11.heap.size (by simp; omega) (fun e => by have := (HO.out.lt _ e.symm).1; omega)).trans ((show Ext wr _ from (by with_reducible (repeat (first | exact Ext.rfl_ _ | assumption | refine Ext.drew ?_ | refine Ext.drewN ?_ _ | refine Ext.alloc ?_ _ | refine Ext.trans ?_ (by assumption))))).blk HB.out); obtain ⟨p0, p1, pf0, pf1⟩ := box2 hb' (Ext.rfl_ _); have hE' := (HE.out.trans (show Ext wr _ from (by with_reducible (repeat (first | exact Ext.rfl_ _ | assumption | refine Ext.drew ?_ | refine Ext.drewN ?_ _ | refine Ext.alloc ?_ _ | refine Ext.trans ?_ (by assumption)))))).grown g' (fun q hq => by have := (HO.out.lt _ hq).1; omega)
          refine hK _ _ ?_
          clear hK K
          (try simp only [Act.put, List.getElem_toArray, List.getElem_cons_zero, List.getElem_cons_succ, List.setIfInBounds_toArray, List.set_cons_zero, List.set_cons_succ])
          refine wpAny_take (i := 9) (oi := ({ dst := some 67, op := Go.Op.fieldAddr 24 (Go.Operand.tmp 15) 1, type := 0, pos := "law.go:160", after := #[{ on := 0, ground := Go.Ground.phase }, { on := 1, ground := Go.Ground.phase }, { on := 2, ground := Go.Ground.phase }, { on := 3, ground := Go.Ground.phase }, { on := 4, ground := Go.Ground.phase }, { on := 5, ground := Go.Ground.phase }, { on := 6, ground := Go.Ground.phase }, { on := 7, ground := Go.Ground.phase }, { on := 8, ground := Go.Ground.phase }], guard := none } : Go.Oper)) (v := ?v6) rfl (by kernel_rfl) (by kernel_rfl) (by kernel_rfl) (fun _ _ _ h => h) (Or.inl ⟨by rfl, ?hy6⟩) ?rest6
          case hy6 => (intro w; go_simp; (try with_reducible rfl))
          (try simp only [Act.put, List.getElem_toArray, List.getElem_cons_zero, List.getElem_cons_succ, List.setIfInBounds_toArray, List.set_cons_zero, List.set_cons_succ])
          refine wpAny_ready (rs := [10]) (by kernel_rfl) (by simp) ?_
          refine AllReady.cons (o := ({ dst := none, op := Go.Op.store 22 (Go.Operand.tmp 67) (Go.Operand.tmp 66), type := 0, pos := "law.go:160", after := #[{ on := 9, ground := Go.Ground.data }, { on := 8, ground := Go.Ground.data }, { on := 8, ground := Go.Ground.chain }, { on := 0, ground := Go.Ground.phase }, { on := 1, ground := Go.Ground.phase }, { on := 2, ground := Go.Ground.phase }, { on := 3, ground := Go.Ground.phase }, { on := 4, ground := Go.Ground.phase }, { on := 5, ground := Go.Ground.phase }, { on := 6, ground := Go.Ground.phase }, { on := 7, ground := Go.Ground.phase }, { on := 8, ground := Go.Ground.phase }], guard := none } : Go.Oper)) rfl (fun K hK => ?_) AllReady.nil
          go_simp
          refine hK _ _ ?_
          clear hK K
          (try simp only [Act.put, List.getElem_toArray, List.getElem_cons_zero, List.getElem_cons_succ, List.setIfInBounds_toArray, List.set_cons_zero, List.set_cons_succ])
          refine wpAny_done (by kernel_rfl) ?_ _
        case' more5 =>
          refine AllReady.cons (o := ({ dst := some 63, op := Go.Op.makeSlice 29 (Go.Operand.const (Go.Value.int Go.IntKind.i64 65536)) (Go.Operand.const (Go.Value.int Go.IntKind.i64 65536)), type := 29, pos := "law.go:160", after := #[], guard := none } : Go.Oper)) rfl (fun K hK => ?_) AllReady.nil
          go_simp
          refine hK _ _ ?_
          clear hK K
          (try simp only [Act.put, List.getElem_toArray, List.getElem_cons_zero, List.getElem_cons_succ, List.setIfInBounds_toArray, List.set_cons_zero, List.set_cons_succ])
          refine wpAny_ready (rs := [4]) (by kernel_rfl) (by simp) ?_
          refine AllReady.cons (o := ({ dst := some 62, op := Go.Op.buildSlice 29 1 #[(0, Go.Operand.tmp 61)], type := 29, pos := "law.go:160", after := #[{ on := 3, ground := Go.Ground.data }], guard := none } : Go.Oper)) rfl (fun K hK => ?_) AllReady.nil
          go_simp
          refine hK _ _ ?_
          clear hK K
          (try simp only [Act.put, List.getElem_toArray, List.getElem_cons_zero, List.getElem_cons_succ, List.setIfInBounds_toArray, List.set_cons_zero, List.set_cons_succ])
          refine wpAny_ready (rs := [6]) (by kernel_rfl) (by simp) ?_
          refine AllReady.cons (o := ({ dst := some 64, op := Go.Op.build 47 #[(0, Go.Operand.tmp 62), (1, Go.Operand.const (Go.Value.int Go.IntKind.i64 1)), (2, Go.Operand.const (Go.Value.int Go.IntKind.i64 1)), (3, Go.Operand.tmp 63)], type := 47, pos := "law.go:160", after := #[{ on := 4, ground := Go.Ground.data }, { on := 5, ground := Go.Ground.data }], guard := none } : Go.Oper)) rfl (fun K hK => ?_) AllReady.nil
          go_simp
          refine hK _ _ ?_
          clear hK K
          (try simp only [Act.put, List.getElem_toArray, List.getElem_cons_zero, List.getElem_cons_succ, List.setIfInBounds_toArray, List.set_cons_zero, List.set_cons_succ])
          refine wpAny_ready (rs := [7]) (by kernel_rfl) (by simp) ?_
          refine AllReady.cons (o := ({ dst := some 65, op := Go.Op.buildSlice 22 1 #[(0, Go.Operand.tmp 64)], type := 22, pos := "law.go:160", after := #[{ on := 6, ground := Go.Ground.data }], guard := none } : Go.Oper)) rfl (fun K hK => ?_) AllReady.nil
          go_simp
          refine hK _ _ ?_
          clear hK K
          (try simp only [Act.put, List.getElem_toArray, List.getElem_cons_zero, List.getElem_cons_succ, List.setIfInBounds_toArray, List.set_cons_zero, List.set_cons_succ])
          refine wpAny_ready (rs := [8]) (by kernel_rfl) (by simp) ?_
          refine AllReady.cons (o := ({ dst := some 66, op := Go.Op.call { callee := Go.Callee.builtin Go.Builtin.append, args := #[Go.Operand.tmp 59, Go.Operand.tmp 65], argTypes := #[22, 22] }, type := 22, pos := "law.go:160", after := #[{ on := 1, ground := Go.Ground.data }, { on := 7, ground := Go.Ground.data }], guard := none } : Go.Oper)) rfl (fun K hK => ?_) AllReady.nil
          refine step_appL rfl _ _ rfl (w11.heap.size + 1) (.slice Av nv cv) (bigL k) rfl (HO.out.ext (by with_reducible (repeat (first | exact Ext.rfl_ _ | assumption | refine Ext.drew ?_ | refine Ext.drewN ?_ _ | refine Ext.alloc ?_ _ | refine Ext.trans ?_ (by assumption))))) _ 1 1 [bigE k] rfl (by first | exact bigRow1 wr hlt | exact bigRow2 wr hlt) (by rw [bigL_length]; simp; unfold B41; omega) (by simp; omega) ?_; intro v' w' o' g' _; obtain ⟨Av', nv', cv', rfl, _⟩ := o'.formN (by rw [List.length_append, bigL_length]; simp; unfold B41; omega); have hb' := (g'.block w11.heap.size (by simp; omega) (fun e => by have := (HO.out.lt _ e.symm).1; omega)).trans ((show Ext wr _ from (by with_reducible (repeat (first | exact Ext.rfl_ _ | assumption | refine Ext.drew ?_ | refine Ext.drewN ?_ _ | refine Ext.alloc ?_ _ | refine Ext.trans ?_ (by assumption))))).blk HB.out); obtain ⟨p0, p1, pf0, pf1⟩ := box2 hb' (Ext.rfl_ _); have hE' := (HE.out.trans (show Ext wr _ from (by with_reducible (repeat (first | exact Ext.rfl_ _ | assumption | refine Ext.drew ?_ | refine Ext.drewN ?_ _ | refine Ext.alloc ?_ _ | refine Ext.trans ?_ (by assumption)))))).grown g' (fun q hq => by have := (HO.out.lt _ hq).1; omega)
          refine hK _ _ ?_
          clear hK K
          (try simp only [Act.put, List.getElem_toArray, List.getElem_cons_zero, List.getElem_cons_succ, List.setIfInBounds_toArray, List.set_cons_zero, List.set_cons_succ])
          refine wpAny_take (i := 9) (oi := ({ dst := some 67, op := Go.Op.fieldAddr 24 (Go.Operand.tmp 15) 1, type := 0, pos := "law.go:160", after := #[{ on := 0, ground := Go.Ground.phase }, { on := 1, ground := Go.Ground.phase }, { on := 2, ground := Go.Ground.phase }, { on := 3, ground := Go.Ground.phase }, { on := 4, ground := Go.Ground.phase }, { on := 5, ground := Go.Ground.phase }, { on := 6, ground := Go.Ground.phase }, { on := 7, ground := Go.Ground.phase }, { on := 8, ground := Go.Ground.phase }], guard := none } : Go.Oper)) (v := ?v7) rfl (by kernel_rfl) (by kernel_rfl) (by kernel_rfl) (fun _ _ _ h => h) (Or.inl ⟨by rfl, ?hy7⟩) ?rest7
          case hy7 => (intro w; go_simp; (try with_reducible rfl))
          (try simp only [Act.put, List.getElem_toArray, List.getElem_cons_zero, List.getElem_cons_succ, List.setIfInBounds_toArray, List.set_cons_zero, List.set_cons_succ])
          refine wpAny_ready (rs := [10]) (by kernel_rfl) (by simp) ?_
          refine AllReady.cons (o := ({ dst := none, op := Go.Op.store 22 (Go.Operand.tmp 67) (Go.Operand.tmp 66), type := 0, pos := "law.go:160", after := #[{ on := 9, ground := Go.Ground.data }, { on := 8, ground := Go.Ground.data }, { on := 8, ground := Go.Ground.chain }, { on := 0, ground := Go.Ground.phase }, { on := 1, ground := Go.Ground.phase }, { on := 2, ground := Go.Ground.phase }, { on := 3, ground := Go.Ground.phase }, { on := 4, ground := Go.Ground.phase }, { on := 5, ground := Go.Ground.phase }, { on := 6, ground := Go.Ground.phase }, { on := 7, ground := Go.Ground.phase }, { on := 8, ground := Go.Ground.phase }], guard := none } : Go.Oper)) rfl (fun K hK => ?_) AllReady.nil
          go_simp
          refine hK _ _ ?_
          clear hK K
          (try simp only [Act.put, List.getElem_toArray, List.getElem_cons_zero, List.getElem_cons_succ, List.setIfInBounds_toArray, List.set_cons_zero, List.set_cons_succ])
          refine wpAny_done (by kernel_rfl) ?_ _
      case' more4 =>
        refine AllReady.cons (o := ({ dst := some 62, op := Go.Op.buildSlice 29 1 #[(0, Go.Operand.tmp 61)], type := 29, pos := "law.go:160", after := #[{ on := 3, ground := Go.Ground.data }], guard := none } : Go.Oper)) rfl (fun K hK => ?one8) ?more8
        case' one8 =>
          go_simp
          refine hK _ _ ?_
          clear hK K
          (try simp only [Act.put, List.getElem_toArray, List.getElem_cons_zero, List.getElem_cons_succ, List.setIfInBounds_toArray, List.set_cons_zero, List.set_cons_succ])
          refine wpAny_ready (rs := [1, 5]) (by kernel_rfl) (by simp) ?_
          refine AllReady.cons (o := ({ dst := some 59, op := Go.Op.load 22 (Go.Operand.tmp 58), type := 22, pos := "law.go:160", after := #[{ on := 0, ground := Go.Ground.data }], guard := none } : Go.Oper)) rfl (fun K hK => ?one9) ?more9
          case' one9 =>
            go_simp
            refine hK _ _ ?_
            clear hK K
            (try simp only [Act.put, List.getElem_toArray, List.getElem_cons_zero, List.getElem_cons_succ, List.setIfInBounds_toArray, List.set_cons_zero, List.set_cons_succ])
            refine wpAny_ready (rs := [5]) (by kernel_rfl) (by simp) ?_
            refine AllReady.cons (o := ({ dst := some 63, op := Go.Op.makeSlice 29 (Go.Operand.const (Go.Value.int Go.IntKind.i64 65536)) (Go.Operand.const (Go.Value.int Go.IntKind.i64 65536)), type := 29, pos := "law.go:160", after := #[], guard := none } : Go.Oper)) rfl (fun K hK => ?_) AllReady.nil
            go_simp
            refine hK _ _ ?_
            clear hK K
            (try simp only [Act.put, List.getElem_toArray, List.getElem_cons_zero, List.getElem_cons_succ, List.setIfInBounds_toArray, List.set_cons_zero, List.set_cons_succ])
            refine wpAny_ready (rs := [6]) (by kernel_rfl) (by simp) ?_
            refine AllReady.cons (o := ({ dst := some 64, op := Go.Op.build 47 #[(0, Go.Operand.tmp 62), (1, Go.Operand.const (Go.Value.int Go.IntKind.i64 1)), (2, Go.Operand.const (Go.Value.int Go.IntKind.i64 1)), (3, Go.Operand.tmp 63)], type := 47, pos := "law.go:160", after := #[{ on := 4, ground := Go.Ground.data }, { on := 5, ground := Go.Ground.data }], guard := none } : Go.Oper)) rfl (fun K hK => ?_) AllReady.nil
            go_simp
            refine hK _ _ ?_
            clear hK K
            (try simp only [Act.put, List.getElem_toArray, List.getElem_cons_zero, List.getElem_cons_succ, List.setIfInBounds_toArray, List.set_cons_zero, List.set_cons_succ])
            refine wpAny_ready (rs := [7]) (by kernel_rfl) (by simp) ?_
            refine AllReady.cons (o := ({ dst := some 65, op := Go.Op.buildSlice 22 1 #[(0, Go.Operand.tmp 64)], type := 22, pos := "law.go:160", after := #[{ on := 6, ground := Go.Ground.data }], guard := none } : Go.Oper)) rfl (fun K hK => ?_) AllReady.nil
            go_simp
            refine hK _ _ ?_
            clear hK K
            (try simp only [Act.put, List.getElem_toArray, List.getElem_cons_zero, List.getElem_cons_succ, List.setIfInBounds_toArray, List.set_cons_zero, List.set_cons_succ])
            refine wpAny_ready (rs := [8]) (by kernel_rfl) (by simp) ?_
            refine AllReady.cons (o := ({ dst := some 66, op := Go.Op.call { callee := Go.Callee.builtin Go.Builtin.append, args := #[Go.Operand.tmp 59, Go.Operand.tmp 65], argTypes := #[22, 22] }, type := 22, pos := "law.go:160", after := #[{ on := 1, ground := Go.Ground.data }, { on := 7, ground := Go.Ground.data }], guard := none } : Go.Oper)) rfl (fun K hK => ?_) AllReady.nil
            refine step_appL rfl _ _ rfl (w11.heap.size + 1) (.slice Av nv cv) (bigL k) rfl (HO.out.ext (by with_reducible (repeat (first | exact Ext.rfl_ _ | assumption | refine Ext.drew ?_ | refine Ext.drewN ?_ _ | refine Ext.alloc ?_ _ | refine Ext.trans ?_ (by assumption))))) _ 1 1 [bigE k] rfl (by first | exact bigRow1 wr hlt | exact bigRow2 wr hlt) (by rw [bigL_length]; simp; unfold B41; omega) (by simp; omega) ?_; intro v' w' o' g' _; obtain ⟨Av', nv', cv', rfl, _⟩ := o'.formN (by rw [List.length_append, bigL_length]; simp; unfold B41; omega); have hb' := (g'.block w11.heap.size (by simp; omega) (fun e => by have := (HO.out.lt _ e.symm).1; omega)).trans ((show Ext wr _ from (by with_reducible (repeat (first | exact Ext.rfl_ _ | assumption | refine Ext.drew ?_ | refine Ext.drewN ?_ _ | refine Ext.alloc ?_ _ | refine Ext.trans ?_ (by assumption))))).blk HB.out); obtain ⟨p0, p1, pf0, pf1⟩ := box2 hb' (Ext.rfl_ _); have hE' := (HE.out.trans (show Ext wr _ from (by with_reducible (repeat (first | exact Ext.rfl_ _ | assumption | refine Ext.drew ?_ | refine Ext.drewN ?_ _ | refine Ext.alloc ?_ _ | refine Ext.trans ?_ (by assumption)))))).grown g' (fun q hq => by have := (HO.out.lt _ hq).1; omega)
            refine hK _ _ ?_
            clear hK K
            (try simp only [Act.put, List.getElem_toArray, List.getElem_cons_zero, List.getElem_cons_succ, List.setIfInBounds_toArray, List.set_cons_zero, List.set_cons_succ])
            refine wpAny_take (i := 9) (oi := ({ dst := some 67, op := Go.Op.fieldAddr 24 (Go.Operand.tmp 15) 1, type := 0, pos := "law.go:160", after := #[{ on := 0, ground := Go.Ground.phase }, { on := 1, ground := Go.Ground.phase }, { on := 2, ground := Go.Ground.phase }, { on := 3, ground := Go.Ground.phase }, { on := 4, ground := Go.Ground.phase }, { on := 5, ground := Go.Ground.phase }, { on := 6, ground := Go.Ground.phase }, { on := 7, ground := Go.Ground.phase }, { on := 8, ground := Go.Ground.phase }], guard := none } : Go.Oper)) (v := ?v10) rfl (by kernel_rfl) (by kernel_rfl) (by kernel_rfl) (fun _ _ _ h => h) (Or.inl ⟨by rfl, ?hy10⟩) ?rest10
            case hy10 => (intro w; go_simp; (try with_reducible rfl))
            (try simp only [Act.put, List.getElem_toArray, List.getElem_cons_zero, List.getElem_cons_succ, List.setIfInBounds_toArray, List.set_cons_zero, List.set_cons_succ])
            refine wpAny_ready (rs := [10]) (by kernel_rfl) (by simp) ?_
            refine AllReady.cons (o := ({ dst := none, op := Go.Op.store 22 (Go.Operand.tmp 67) (Go.Operand.tmp 66), type := 0, pos := "law.go:160", after := #[{ on := 9, ground := Go.Ground.data }, { on := 8, ground := Go.Ground.data }, { on := 8, ground := Go.Ground.chain }, { on := 0, ground := Go.Ground.phase }, { on := 1, ground := Go.Ground.phase }, { on := 2, ground := Go.Ground.phase }, { on := 3, ground := Go.Ground.phase }, { on := 4, ground := Go.Ground.phase }, { on := 5, ground := Go.Ground.phase }, { on := 6, ground := Go.Ground.phase }, { on := 7, ground := Go.Ground.phase }, { on := 8, ground := Go.Ground.phase }], guard := none } : Go.Oper)) rfl (fun K hK => ?_) AllReady.nil
            go_simp
            refine hK _ _ ?_
            clear hK K
            (try simp only [Act.put, List.getElem_toArray, List.getElem_cons_zero, List.getElem_cons_succ, List.setIfInBounds_toArray, List.set_cons_zero, List.set_cons_succ])
            refine wpAny_done (by kernel_rfl) ?_ _
          case' more9 =>
            refine AllReady.cons (o := ({ dst := some 63, op := Go.Op.makeSlice 29 (Go.Operand.const (Go.Value.int Go.IntKind.i64 65536)) (Go.Operand.const (Go.Value.int Go.IntKind.i64 65536)), type := 29, pos := "law.go:160", after := #[], guard := none } : Go.Oper)) rfl (fun K hK => ?_) AllReady.nil
            go_simp
            refine hK _ _ ?_
            clear hK K
            (try simp only [Act.put, List.getElem_toArray, List.getElem_cons_zero, List.getElem_cons_succ, List.setIfInBounds_toArray, List.set_cons_zero, List.set_cons_succ])
            refine wpAny_ready (rs := [1, 6]) (by kernel_rfl) (by simp) ?_
            refine AllReady.cons (o := ({ dst := some 59, op := Go.Op.load 22 (Go.Operand.tmp 58), type := 22, pos := "law.go:160", after := #[{ on := 0, ground := Go.Ground.data }], guard := none } : Go.Oper)) rfl (fun K hK => ?one11) ?more11
            case' one11 =>
              go_simp
              refine hK _ _ ?_
              clear hK K
              (try simp only [Act.put, List.getElem_toArray, List.getElem_cons_zero, List.getElem_cons_succ, List.setIfInBounds_toArray, List.set_cons_zero, List.set_cons_succ])
              refine wpAny_ready (rs := [6]) (by kernel_rfl) (by simp) ?_
              refine AllReady.cons (o := ({ dst := some 64, op := Go.Op.build 47 #[(0, Go.Operand.tmp 62), (1, Go.Operand.const (Go.Value.int Go.IntKind.i64 1)), (2, Go.Operand.const (Go.Value.int Go.IntKind.i64 1)), (3, Go.Operand.tmp 63)], type := 47, pos := "law.go:160", after := #[{ on := 4, ground := Go.Ground.data }, { on := 5, ground := Go.Ground.data }], guard := none } : Go.Oper)) rfl (fun K hK => ?_) AllReady.nil
              go_simp
              refine hK _ _ ?_
              clear hK K
              (try simp only [Act.put, List.getElem_toArray, List.getElem_cons_zero, List.getElem_cons_succ, List.setIfInBounds_toArray, List.set_cons_zero, List.set_cons_succ])
              refine wpAny_ready (rs := [7]) (by kernel_rfl) (by simp) ?_
              refine AllReady.cons (o := ({ dst := some 65, op := Go.Op.buildSlice 22 1 #[(0, Go.Operand.tmp 64)], type := 22, pos := "law.go:160", after := #[{ on := 6, ground := Go.Ground.data }], guard := none } : Go.Oper)) rfl (fun K hK => ?_) AllReady.nil
              go_simp
              refine hK _ _ ?_
              clear hK K
              (try simp only [Act.put, List.getElem_toArray, List.getElem_cons_zero, List.getElem_cons_succ, List.setIfInBounds_toArray, List.set_cons_zero, List.set_cons_succ])
              refine wpAny_ready (rs := [8]) (by kernel_rfl) (by simp) ?_
              refine AllReady.cons (o := ({ dst := some 66, op := Go.Op.call { callee := Go.Callee.builtin Go.Builtin.append, args := #[Go.Operand.tmp 59, Go.Operand.tmp 65], argTypes := #[22, 22] }, type := 22, pos := "law.go:160", after := #[{ on := 1, ground := Go.Ground.data }, { on := 7, ground := Go.Ground.data }], guard := none } : Go.Oper)) rfl (fun K hK => ?_) AllReady.nil
              refine step_appL rfl _ _ rfl (w11.heap.size + 1) (.slice Av nv cv) (bigL k) rfl (HO.out.ext (by with_reducible (repeat (first | exact Ext.rfl_ _ | assumption | refine Ext.drew ?_ | refine Ext.drewN ?_ _ | refine Ext.alloc ?_ _ | refine Ext.trans ?_ (by assumption))))) _ 1 1 [bigE k] rfl (by first | exact bigRow1 wr hlt | exact bigRow2 wr hlt) (by rw [bigL_length]; simp; unfold B41; omega) (by simp; omega) ?_; intro v' w' o' g' _; obtain ⟨Av', nv', cv', rfl, _⟩ := o'.formN (by rw [List.length_append, bigL_length]; simp; unfold B41; omega); have hb' := (g'.block w11.heap.size (by simp; omega) (fun e => by have := (HO.out.lt _ e.symm).1; omega)).trans ((show Ext wr _ from (by with_reducible (repeat (first | exact Ext.rfl_ _ | assumption | refine Ext.drew ?_ | refine Ext.drewN ?_ _ | refine Ext.alloc ?_ _ | refine Ext.trans ?_ (by assumption))))).blk HB.out); obtain ⟨p0, p1, pf0, pf1⟩ := box2 hb' (Ext.rfl_ _); have hE' := (HE.out.trans (show Ext wr _ from (by with_reducible (repeat (first | exact Ext.rfl_ _ | assumption | refine Ext.drew ?_ | refine Ext.drewN ?_ _ | refine Ext.alloc ?_ _ | refine Ext.trans ?_ (by assumption)))))).grown g' (fun q hq => by have := (HO.out.lt _ hq).1; omega)
              refine hK _ _ ?_
              clear hK K
              (try simp only [Act.put, List.getElem_toArray, List.getElem_cons_zero, List.getElem_cons_succ, List.setIfInBounds_toArray, List.set_cons_zero, List.set_cons_succ])
              refine wpAny_take (i := 9) (oi := ({ dst := some 67, op := Go.Op.fieldAddr 24 (Go.Operand.tmp 15) 1, type := 0, pos := "law.go:160", after := #[{ on := 0, ground := Go.Ground.phase }, { on := 1, ground := Go.Ground.phase }, { on := 2, ground := Go.Ground.phase }, { on := 3, ground := Go.Ground.phase }, { on := 4, ground := Go.Ground.phase }, { on := 5, ground := Go.Ground.phase }, { on := 6, ground := Go.Ground.phase }, { on := 7, ground := Go.Ground.phase }, { on := 8, ground := Go.Ground.phase }], guard := none } : Go.Oper)) (v := ?v12) rfl (by kernel_rfl) (by kernel_rfl) (by kernel_rfl) (fun _ _ _ h => h) (Or.inl ⟨by rfl, ?hy12⟩) ?rest12
              case hy12 => (intro w; go_simp; (try with_reducible rfl))
              (try simp only [Act.put, List.getElem_toArray, List.getElem_cons_zero, List.getElem_cons_succ, List.setIfInBounds_toArray, List.set_cons_zero, List.set_cons_succ])
              refine wpAny_ready (rs := [10]) (by kernel_rfl) (by simp) ?_
              refine AllReady.cons (o := ({ dst := none, op := Go.Op.store 22 (Go.Operand.tmp 67) (Go.Operand.tmp 66), type := 0, pos := "law.go:160", after := #[{ on := 9, ground := Go.Ground.data }, { on := 8, ground := Go.Ground.data }, { on := 8, ground := Go.Ground.chain }, { on := 0, ground := Go.Ground.phase }, { on := 1, ground := Go.Ground.phase }, { on := 2, ground := Go.Ground.phase }, { on := 3, ground := Go.Ground.phase }, { on := 4, ground := Go.Ground.phase }, { on := 5, ground := Go.Ground.phase }, { on := 6, ground := Go.Ground.phase }, { on := 7, ground := Go.Ground.phase }, { on := 8, ground := Go.Ground.phase }], guard := none } : Go.Oper)) rfl (fun K hK => ?_) AllReady.nil
              go_simp
              refine hK _ _ ?_
              clear hK K
              (try simp only [Act.put, List.getElem_toArray, List.getElem_cons_zero, List.getElem_cons_succ, List.setIfInBounds_toArray, List.set_cons_zero, List.set_cons_succ])
              refine wpAny_done (by kernel_rfl) ?_ _
            case' more11 =>
              refine AllReady.cons (o := ({ dst := some 64, op := Go.Op.build 47 #[(0, Go.Operand.tmp 62), (1, Go.Operand.const (Go.Value.int Go.IntKind.i64 1)), (2, Go.Operand.const (Go.Value.int Go.IntKind.i64 1)), (3, Go.Operand.tmp 63)], type := 47, pos := "law.go:160", after := #[{ on := 4, ground := Go.Ground.data }, { on := 5, ground := Go.Ground.data }], guard := none } : Go.Oper)) rfl (fun K hK => ?_) AllReady.nil
              go_simp
              refine hK _ _ ?_
              clear hK K
              (try simp only [Act.put, List.getElem_toArray, List.getElem_cons_zero, List.getElem_cons_succ, List.setIfInBounds_toArray, List.set_cons_zero, List.set_cons_succ])
              refine wpAny_ready (rs := [1, 7]) (by kernel_rfl) (by simp) ?_
              refine AllReady.cons (o := ({ dst := some 59, op := Go.Op.load 22 (Go.Operand.tmp 58), type := 22, pos := "law.go:160", after := #[{ on := 0, ground := Go.Ground.data }], guard := none } : Go.Oper)) rfl (fun K hK => ?one13) ?more13
              case' one13 =>
                go_simp
                refine hK _ _ ?_
                clear hK K
                (try simp only [Act.put, List.getElem_toArray, List.getElem_cons_zero, List.getElem_cons_succ, List.setIfInBounds_toArray, List.set_cons_zero, List.set_cons_succ])
                refine wpAny_ready (rs := [7]) (by kernel_rfl) (by simp) ?_
                refine AllReady.cons (o := ({ dst := some 65, op := Go.Op.buildSlice 22 1 #[(0, Go.Operand.tmp 64)], type := 22, pos := "law.go:160", after := #[{ on := 6, ground := Go.Ground.data }], guard := none } : Go.Oper)) rfl (fun K hK => ?_) AllReady.nil
                go_simp
                refine hK _ _ ?_
                clear hK K
                (try simp only [Act.put, List.getElem_toArray, List.getElem_cons_zero, List.getElem_cons_succ, List.setIfInBounds_toArray, List.set_cons_zero, List.set_cons_succ])
                refine wpAny_ready (rs := [8]) (by kernel_rfl) (by simp) ?_
                refine AllReady.cons (o := ({ dst := some 66, op := Go.Op.call { callee := Go.Callee.builtin Go.Builtin.append, args := #[Go.Operand.tmp 59, Go.Operand.tmp 65], argTypes := #[22, 22] }, type := 22, pos := "law.go:160", after := #[{ on := 1, ground := Go.Ground.data }, { on := 7, ground := Go.Ground.data }], guard := none } : Go.Oper)) rfl (fun K hK => ?_) AllReady.nil
                refine step_appL rfl _ _ rfl (w11.heap.size + 1) (.slice Av nv cv) (bigL k) rfl (HO.out.ext (by with_reducible (repeat (first | exact Ext.rfl_ _ | assumption | refine Ext.drew ?_ | refine Ext.drewN ?_ _ | refine Ext.alloc ?_ _ | refine Ext.trans ?_ (by assumption))))) _ 1 1 [bigE k] rfl (by first | exact bigRow1 wr hlt | exact bigRow2 wr hlt) (by rw [bigL_length]; simp; unfold B41; omega) (by simp; omega) ?_; intro v' w' o' g' _; obtain ⟨Av', nv', cv', rfl, _⟩ := o'.formN (by rw [List.length_append, bigL_length]; simp; unfold B41; omega); have hb' := (g'.block w11.heap.size (by simp; omega) (fun e => by have := (HO.out.lt _ e.symm).1; omega)).trans ((show Ext wr _ from (by with_reducible (repeat (first | exact Ext.rfl_ _ | assumption | refine Ext.drew ?_ | refine Ext.drewN ?_ _ | refine Ext.alloc ?_ _ | refine Ext.trans ?_ (by assumption))))).blk HB.out); obtain ⟨p0, p1, pf0, pf1⟩ := box2 hb' (Ext.rfl_ _); have hE' := (HE.out.trans (show Ext wr _ from (by with_reducible (repeat (first | exact Ext.rfl_ _ | assumption | refine Ext.drew ?_ | refine Ext.drewN ?_ _ | refine Ext.alloc ?_ _ | refine Ext.trans ?_ (by assumption)))))).grown g' (fun q hq => by have := (HO.out.lt _ hq).1; omega)
                refine hK _ _ ?_
                clear hK K
                (try simp only [Act.put, List.getElem_toArray, List.getElem_cons_zero, List.getElem_cons_succ, List.setIfInBounds_toArray, List.set_cons_zero, List.set_cons_succ])
                refine wpAny_take (i := 9) (oi := ({ dst := some 67, op := Go.Op.fieldAddr 24 (Go.Operand.tmp 15) 1, type := 0, pos := "law.go:160", after := #[{ on := 0, ground := Go.Ground.phase }, { on := 1, ground := Go.Ground.phase }, { on := 2, ground := Go.Ground.phase }, { on := 3, ground := Go.Ground.phase }, { on := 4, ground := Go.Ground.phase }, { on := 5, ground := Go.Ground.phase }, { on := 6, ground := Go.Ground.phase }, { on := 7, ground := Go.Ground.phase }, { on := 8, ground := Go.Ground.phase }], guard := none } : Go.Oper)) (v := ?v14) rfl (by kernel_rfl) (by kernel_rfl) (by kernel_rfl) (fun _ _ _ h => h) (Or.inl ⟨by rfl, ?hy14⟩) ?rest14
                case hy14 => (intro w; go_simp; (try with_reducible rfl))
                (try simp only [Act.put, List.getElem_toArray, List.getElem_cons_zero, List.getElem_cons_succ, List.setIfInBounds_toArray, List.set_cons_zero, List.set_cons_succ])
                refine wpAny_ready (rs := [10]) (by kernel_rfl) (by simp) ?_
                refine AllReady.cons (o := ({ dst := none, op := Go.Op.store 22 (Go.Operand.tmp 67) (Go.Operand.tmp 66), type := 0, pos := "law.go:160", after := #[{ on := 9, ground := Go.Ground.data }, { on := 8, ground := Go.Ground.data }, { on := 8, ground := Go.Ground.chain }, { on := 0, ground := Go.Ground.phase }, { on := 1, ground := Go.Ground.phase }, { on := 2, ground := Go.Ground.phase }, { on := 3, ground := Go.Ground.phase }, { on := 4, ground := Go.Ground.phase }, { on := 5, ground := Go.Ground.phase }, { on := 6, ground := Go.Ground.phase }, { on := 7, ground := Go.Ground.phase }, { on := 8, ground := Go.Ground.phase }], guard := none } : Go.Oper)) rfl (fun K hK => ?_) AllReady.nil
                go_simp
                refine hK _ _ ?_
                clear hK K
                (try simp only [Act.put, List.getElem_toArray, List.getElem_cons_zero, List.getElem_cons_succ, List.setIfInBounds_toArray, List.set_cons_zero, List.set_cons_succ])
                refine wpAny_done (by kernel_rfl) ?_ _
              case' more13 =>
                refine AllReady.cons (o := ({ dst := some 65, op := Go.Op.buildSlice 22 1 #[(0, Go.Operand.tmp 64)], type := 22, pos := "law.go:160", after := #[{ on := 6, ground := Go.Ground.data }], guard := none } : Go.Oper)) rfl (fun K hK => ?_) AllReady.nil
                go_simp
                refine hK _ _ ?_
                clear hK K
                (try simp only [Act.put, List.getElem_toArray, List.getElem_cons_zero, List.getElem_cons_succ, List.setIfInBounds_toArray, List.set_cons_zero, List.set_cons_succ])
                refine wpAny_ready (rs := [1]) (by kernel_rfl) (by simp) ?_
                refine AllReady.cons (o := ({ dst := some 59, op := Go.Op.load 22 (Go.Operand.tmp 58), type := 22, pos := "law.go:160", after := #[{ on := 0, ground := Go.Ground.data }], guard := none } : Go.Oper)) rfl (fun K hK => ?_) AllReady.nil
                go_simp
                refine hK _ _ ?_
                clear hK K
                (try simp only [Act.put, List.getElem_toArray, List.getElem_cons_zero, List.getElem_cons_succ, List.setIfInBounds_toArray, List.set_cons_zero, List.set_cons_succ])
                refine wpAny_ready (rs := [8]) (by kernel_rfl) (by simp) ?_
                refine AllReady.cons (o := ({ dst := some 66, op := Go.Op.call { callee := Go.Callee.builtin Go.Builtin.append, args := #[Go.Operand.tmp 59, Go.Operand.tmp 65], argTypes := #[22, 22] }, type := 22, pos := "law.go:160", after := #[{ on := 1, ground := Go.Ground.data }, { on := 7, ground := Go.Ground.data }], guard := none } : Go.Oper)) rfl (fun K hK => ?_) AllReady.nil
                refine step_appL rfl _ _ rfl (w11.heap.size + 1) (.slice Av nv cv) (bigL k) rfl (HO.out.ext (by with_reducible (repeat (first | exact Ext.rfl_ _ | assumption | refine Ext.drew ?_ | refine Ext.drewN ?_ _ | refine Ext.alloc ?_ _ | refine Ext.trans ?_ (by assumption))))) _ 1 1 [bigE k] rfl (by first | exact bigRow1 wr hlt | exact bigRow2 wr hlt) (by rw [bigL_length]; simp; unfold B41; omega) (by simp; omega) ?_; intro v' w' o' g' _; obtain ⟨Av', nv', cv', rfl, _⟩ := o'.formN (by rw [List.length_append, bigL_length]; simp; unfold B41; omega); have hb' := (g'.block w11.heap.size (by simp; omega) (fun e => by have := (HO.out.lt _ e.symm).1; omega)).trans ((show Ext wr _ from (by with_reducible (repeat (first | exact Ext.rfl_ _ | assumption | refine Ext.drew ?_ | refine Ext.drewN ?_ _ | refine Ext.alloc ?_ _ | refine Ext.trans ?_ (by assumption))))).blk HB.out); obtain ⟨p0, p1, pf0, pf1⟩ := box2 hb' (Ext.rfl_ _); have hE' := (HE.out.trans (show Ext wr _ from (by with_reducible (repeat (first | exact Ext.rfl_ _ | assumption | refine Ext.drew ?_ | refine Ext.drewN ?_ _ | refine Ext.alloc ?_ _ | refine Ext.trans ?_ (by assumption)))))).grown g' (fun q hq => by have := (HO.out.lt _ hq).1; omega)
                refine hK _ _ ?_
                clear hK K
                (try simp only [Act.put, List.getElem_toArray, List.getElem_cons_zero, List.getElem_cons_succ, List.setIfInBounds_toArray, List.set_cons_zero, List.set_cons_succ])
                refine wpAny_take (i := 9) (oi := ({ dst := some 67, op := Go.Op.fieldAddr 24 (Go.Operand.tmp 15) 1, type := 0, pos := "law.go:160", after := #[{ on := 0, ground := Go.Ground.phase }, { on := 1, ground := Go.Ground.phase }, { on := 2, ground := Go.Ground.phase }, { on := 3, ground := Go.Ground.phase }, { on := 4, ground := Go.Ground.phase }, { on := 5, ground := Go.Ground.phase }, { on := 6, ground := Go.Ground.phase }, { on := 7, ground := Go.Ground.phase }, { on := 8, ground := Go.Ground.phase }], guard := none } : Go.Oper)) (v := ?v15) rfl (by kernel_rfl) (by kernel_rfl) (by kernel_rfl) (fun _ _ _ h => h) (Or.inl ⟨by rfl, ?hy15⟩) ?rest15
                case hy15 => (intro w; go_simp; (try with_reducible rfl))
                (try simp only [Act.put, List.getElem_toArray, List.getElem_cons_zero, List.getElem_cons_succ, List.setIfInBounds_toArray, List.set_cons_zero, List.set_cons_succ])
                refine wpAny_ready (rs := [10]) (by kernel_rfl) (by simp) ?_
                refine AllReady.cons (o := ({ dst := none, op := Go.Op.store 22 (Go.Operand.tmp 67) (Go.Operand.tmp 66), type := 0, pos := "law.go:160", after := #[{ on := 9, ground := Go.Ground.data }, { on := 8, ground := Go.Ground.data }, { on := 8, ground := Go.Ground.chain }, { on := 0, ground := Go.Ground.phase }, { on := 1, ground := Go.Ground.phase }, { on := 2, ground := Go.Ground.phase }, { on := 3, ground := Go.Ground.phase }, { on := 4, ground := Go.Ground.phase }, { on := 5, ground := Go.Ground.phase }, { on := 6, ground := Go.Ground.phase }, { on := 7, ground := Go.Ground.phase }, { on := 8, ground := Go.Ground.phase }], guard := none } : Go.Oper)) rfl (fun K hK => ?_) AllReady.nil
                go_simp
                refine hK _ _ ?_
                clear hK K
                (try simp only [Act.put, List.getElem_toArray, List.getElem_cons_zero, List.getElem_cons_succ, List.setIfInBounds_toArray, List.set_cons_zero, List.set_cons_succ])
                refine wpAny_done (by kernel_rfl) ?_ _
        case' more8 =>
          refine AllReady.cons (o := ({ dst := some 63, op := Go.Op.makeSlice 29 (Go.Operand.const (Go.Value.int Go.IntKind.i64 65536)) (Go.Operand.const (Go.Value.int Go.IntKind.i64 65536)), type := 29, pos := "law.go:160", after := #[], guard := none } : Go.Oper)) rfl (fun K hK => ?_) AllReady.nil
          go_simp
          refine hK _ _ ?_
          clear hK K
          (try simp only [Act.put, List.getElem_toArray, List.getElem_cons_zero, List.getElem_cons_succ, List.setIfInBounds_toArray, List.set_cons_zero, List.set_cons_succ])
          refine wpAny_ready (rs := [1, 4]) (by kernel_rfl) (by simp) ?_
          refine AllReady.cons (o := ({ dst := some 59, op := Go.Op.load 22 (Go.Operand.tmp 58), type := 22, pos := "law.go:160", after := #[{ on := 0, ground := Go.Ground.data }], guard := none } : Go.Oper)) rfl (fun K hK => ?one16) ?more16
          case' one16 =>
            go_simp
            refine hK _ _ ?_
            clear hK K
            (try simp only [Act.put, List.getElem_toArray, List.getElem_cons_zero, List.getElem_cons_succ, List.setIfInBounds_toArray, List.set_cons_zero, List.set_cons_succ])
            refine wpAny_ready (rs := [4]) (by kernel_rfl) (by simp) ?_
            refine AllReady.cons (o := ({ dst := some 62, op := Go.Op.buildSlice 29 1 #[(0, Go.Operand.tmp 61)], type := 29, pos := "law.go:160", after := #[{ on := 3, ground := Go.Ground.data }], guard := none } : Go.Oper)) rfl (fun K hK => ?_) AllReady.nil
            go_simp
            refine hK _ _ ?_
            clear hK K
            (try simp only [Act.put, List.getElem_toArray, List.getElem_cons_zero, List.getElem_cons_succ, List.setIfInBounds_toArray, List.set_cons_zero, List.set_cons_succ])
            refine wpAny_ready (rs := [6]) (by kernel_rfl) (by simp) ?_
            refine AllReady.cons (o := ({ dst := some 64, op := Go.Op.build 47 #[(0, Go.Operand.tmp 62), (1, Go.Operand.const (Go.Value.int Go.IntKind.i64 1)), (2, Go.Operand.const (Go.Value.int Go.IntKind.i64 1)), (3, Go.Operand.tmp 63)], type := 47, pos := "law.go:160", after := #[{ on := 4, ground := Go.Ground.data }, { on := 5, ground := Go.Ground.data }], guard := none } : Go.Oper)) rfl (fun K hK => ?_) AllReady.nil
            go_simp
            refine hK _ _ ?_
            clear hK K
            (try simp only [Act.put, List.getElem_toArray, List.getElem_cons_zero, List.getElem_cons_succ, List.setIfInBounds_toArray, List.set_cons_zero, List.set_cons_succ])
            refine wpAny_ready (rs := [7]) (by kernel_rfl) (by simp) ?_
            refine AllReady.cons (o := ({ dst := some 65, op := Go.Op.buildSlice 22 1 #[(0, Go.Operand.tmp 64)], type := 22, pos := "law.go:160", after := #[{ on := 6, ground := Go.Ground.data }], guard := none } : Go.Oper)) rfl (fun K hK => ?_) AllReady.nil
            go_simp
            refine hK _ _ ?_
            clear hK K
            (try simp only [Act.put, List.getElem_toArray, List.getElem_cons_zero, List.getElem_cons_succ, List.setIfInBounds_toArray, List.set_cons_zero, List.set_cons_succ])
            refine wpAny_ready (rs := [8]) (by kernel_rfl) (by simp) ?_
            refine AllReady.cons (o := ({ dst := some 66, op := Go.Op.call { callee := Go.Callee.builtin Go.Builtin.append, args := #[Go.Operand.tmp 59, Go.Operand.tmp 65], argTypes := #[22, 22] }, type := 22, pos := "law.go:160", after := #[{ on := 1, ground := Go.Ground.data }, { on := 7, ground := Go.Ground.data }], guard := none } : Go.Oper)) rfl (fun K hK => ?_) AllReady.nil
            refine step_appL rfl _ _ rfl (w11.heap.size + 1) (.slice Av nv cv) (bigL k) rfl (HO.out.ext (by with_reducible (repeat (first | exact Ext.rfl_ _ | assumption | refine Ext.drew ?_ | refine Ext.drewN ?_ _ | refine Ext.alloc ?_ _ | refine Ext.trans ?_ (by assumption))))) _ 1 1 [bigE k] rfl (by first | exact bigRow1 wr hlt | exact bigRow2 wr hlt) (by rw [bigL_length]; simp; unfold B41; omega) (by simp; omega) ?_; intro v' w' o' g' _; obtain ⟨Av', nv', cv', rfl, _⟩ := o'.formN (by rw [List.length_append, bigL_length]; simp; unfold B41; omega); have hb' := (g'.block w11.heap.size (by simp; omega) (fun e => by have := (HO.out.lt _ e.symm).1; omega)).trans ((show Ext wr _ from (by with_reducible (repeat (first | exact Ext.rfl_ _ | assumption | refine Ext.drew ?_ | refine Ext.drewN ?_ _ | refine Ext.alloc ?_ _ | refine Ext.trans ?_ (by assumption))))).blk HB.out); obtain ⟨p0, p1, pf0, pf1⟩ := box2 hb' (Ext.rfl_ _); have hE' := (HE.out.trans (show Ext wr _ from (by with_reducible (repeat (first | exact Ext.rfl_ _ | assumption | refine Ext.drew ?_ | refine Ext.drewN ?_ _ | refine Ext.alloc ?_ _ | refine Ext.trans ?_ (by assumption)))))).grown g' (fun q hq => by have := (HO.out.lt _ hq).1; omega)
            refine hK _ _ ?_
            clear hK K
            (try simp only [Act.put, List.getElem_toArray, List.getElem_cons_zero, List.getElem_cons_succ, List.setIfInBounds_toArray, List.set_cons_zero, List.set_cons_succ])
            refine wpAny_take (i := 9) (oi := ({ dst := some 67, op := Go.Op.fieldAddr 24 (Go.Operand.tmp 15) 1, type := 0, pos := "law.go:160", after := #[{ on := 0, ground := Go.Ground.phase }, { on := 1, ground := Go.Ground.phase }, { on := 2, ground := Go.Ground.phase }, { on := 3, ground := Go.Ground.phase }, { on := 4, ground := Go.Ground.phase }, { on := 5, ground := Go.Ground.phase }, { on := 6, ground := Go.Ground.phase }, { on := 7, ground := Go.Ground.phase }, { on := 8, ground := Go.Ground.phase }], guard := none } : Go.Oper)) (v := ?v17) rfl (by kernel_rfl) (by kernel_rfl) (by kernel_rfl) (fun _ _ _ h => h) (Or.inl ⟨by rfl, ?hy17⟩) ?rest17
            case hy17 => (intro w; go_simp; (try with_reducible rfl))
            (try simp only [Act.put, List.getElem_toArray, List.getElem_cons_zero, List.getElem_cons_succ, List.setIfInBounds_toArray, List.set_cons_zero, List.set_cons_succ])
            refine wpAny_ready (rs := [10]) (by kernel_rfl) (by simp) ?_
            refine AllReady.cons (o := ({ dst := none, op := Go.Op.store 22 (Go.Operand.tmp 67) (Go.Operand.tmp 66), type := 0, pos := "law.go:160", after := #[{ on := 9, ground := Go.Ground.data }, { on := 8, ground := Go.Ground.data }, { on := 8, ground := Go.Ground.chain }, { on := 0, ground := Go.Ground.phase }, { on := 1, ground := Go.Ground.phase }, { on := 2, ground := Go.Ground.phase }, { on := 3, ground := Go.Ground.phase }, { on := 4, ground := Go.Ground.phase }, { on := 5, ground := Go.Ground.phase }, { on := 6, ground := Go.Ground.phase }, { on := 7, ground := Go.Ground.phase }, { on := 8, ground := Go.Ground.phase }], guard := none } : Go.Oper)) rfl (fun K hK => ?_) AllReady.nil
            go_simp
            refine hK _ _ ?_
            clear hK K
            (try simp only [Act.put, List.getElem_toArray, List.getElem_cons_zero, List.getElem_cons_succ, List.setIfInBounds_toArray, List.set_cons_zero, List.set_cons_succ])
            refine wpAny_done (by kernel_rfl) ?_ _
          case' more16 =>
            refine AllReady.cons (o := ({ dst := some 62, op := Go.Op.buildSlice 29 1 #[(0, Go.Operand.tmp 61)], type := 29, pos := "law.go:160", after := #[{ on := 3, ground := Go.Ground.data }], guard := none } : Go.Oper)) rfl (fun K hK => ?_) AllReady.nil
            go_simp
            refine hK _ _ ?_
            clear hK K
            (try simp only [Act.put, List.getElem_toArray, List.getElem_cons_zero, List.getElem_cons_succ, List.setIfInBounds_toArray, List.set_cons_zero, List.set_cons_succ])
            refine wpAny_ready (rs := [1, 6]) (by kernel_rfl) (by simp) ?_
            refine AllReady.cons (o := ({ dst := some 59, op := Go.Op.load 22 (Go.Operand.tmp 58), type := 22, pos := "law.go:160", after := #[{ on := 0, ground := Go.Ground.data }], guard := none } : Go.Oper)) rfl (fun K hK => ?one18) ?more18
            case' one18 =>
              go_simp
              refine hK _ _ ?_
              clear hK K
              (try simp only [Act.put, List.getElem_toArray, List.getElem_cons_zero, List.getElem_cons_succ, List.setIfInBounds_toArray, List.set_cons_zero, List.set_cons_succ])
              refine wpAny_ready (rs := [6]) (by kernel_rfl) (by simp) ?_
              refine AllReady.cons (o := ({ dst := some 64, op := Go.Op.build 47 #[(0, Go.Operand.tmp 62), (1, Go.Operand.const (Go.Value.int Go.IntKind.i64 1)), (2, Go.Operand.const (Go.Value.int Go.IntKind.i64 1)), (3, Go.Operand.tmp 63)], type := 47, pos := "law.go:160", after := #[{ on := 4, ground := Go.Ground.data }, { on := 5, ground := Go.Ground.data }], guard := none } : Go.Oper)) rfl (fun K hK => ?_) AllReady.nil
              go_simp
              refine hK _ _ ?_
              clear hK K
              (try simp only [Act.put, List.getElem_toArray, List.getElem_cons_zero, List.getElem_cons_succ, List.setIfInBounds_toArray, List.set_cons_zero, List.set_cons_succ])
              refine wpAny_ready (rs := [7]) (by kernel_rfl) (by simp) ?_
              refine AllReady.cons (o := ({ dst := some 65, op := Go.Op.buildSlice 22 1 #[(0, Go.Operand.tmp 64)], type := 22, pos := "law.go:160", after := #[{ on := 6, ground := Go.Ground.data }], guard := none } : Go.Oper)) rfl (fun K hK => ?_) AllReady.nil
              go_simp
              refine hK _ _ ?_
              clear hK K
              (try simp only [Act.put, List.getElem_toArray, List.getElem_cons_zero, List.getElem_cons_succ, List.setIfInBounds_toArray, List.set_cons_zero, List.set_cons_succ])
              refine wpAny_ready (rs := [8]) (by kernel_rfl) (by simp) ?_
              refine AllReady.cons (o := ({ dst := some 66, op := Go.Op.call { callee := Go.Callee.builtin Go.Builtin.append, args := #[Go.Operand.tmp 59, Go.Operand.tmp 65], argTypes := #[22, 22] }, type := 22, pos := "law.go:160", after := #[{ on := 1, ground := Go.Ground.data }, { on := 7, ground := Go.Ground.data }], guard := none } : Go.Oper)) rfl (fun K hK => ?_) AllReady.nil
              refine step_appL rfl _ _ rfl (w11.heap.size + 1) (.slice Av nv cv) (bigL k) rfl (HO.out.ext (by with_reducible (repeat (first | exact Ext.rfl_ _ | assumption | refine Ext.drew ?_ | refine Ext.drewN ?_ _ | refine Ext.alloc ?_ _ | refine Ext.trans ?_ (by assumption))))) _ 1 1 [bigE k] rfl (by first | exact bigRow1 wr hlt | exact bigRow2 wr hlt) (by rw [bigL_length]; simp; unfold B41; omega) (by simp; omega) ?_; intro v' w' o' g' _; obtain ⟨Av', nv', cv', rfl, _⟩ := o'.formN (by rw [List.length_append, bigL_length]; simp; unfold B41; omega); have hb' := (g'.block w11.heap.size (by simp; omega) (fun e => by have := (HO.out.lt _ e.symm).1; omega)).trans ((show Ext wr _ from (by with_reducible (repeat (first | exact Ext.rfl_ _ | assumption | refine Ext.drew ?_ | refine Ext.drewN ?_ _ | refine Ext.alloc ?_ _ | refine Ext.trans ?_ (by assumption))))).blk HB.out); obtain ⟨p0, p1, pf0, pf1⟩ := box2 hb' (Ext.rfl_ _); have hE' := (HE.out.trans (show Ext wr _ from (by with_reducible (repeat (first | exact Ext.rfl_ _ | assumption | refine Ext.drew ?_ | refine Ext.drewN ?_ _ | refine Ext.alloc ?_ _ | refine Ext.trans ?_ (by assumption)))))).grown g' (fun q hq => by have := (HO.out.lt _ hq).1; omega)
              refine hK _ _ ?_
              clear hK K
              (try simp only [Act.put, List.getElem_toArray, List.getElem_cons_zero, List.getElem_cons_succ, List.setIfInBounds_toArray, List.set_cons_zero, List.set_cons_succ])
              refine wpAny_take (i := 9) (oi := ({ dst := some 67, op := Go.Op.fieldAddr 24 (Go.Operand.tmp 15) 1, type := 0, pos := "law.go:160", after := #[{ on := 0, ground := Go.Ground.phase }, { on := 1, ground := Go.Ground.phase }, { on := 2, ground := Go.Ground.phase }, { on := 3, ground := Go.Ground.phase }, { on := 4, ground := Go.Ground.phase }, { on := 5, ground := Go.Ground.phase }, { on := 6, ground := Go.Ground.phase }, { on := 7, ground := Go.Ground.phase }, { on := 8, ground := Go.Ground.phase }], guard := none } : Go.Oper)) (v := ?v19) rfl (by kernel_rfl) (by kernel_rfl) (by kernel_rfl) (fun _ _ _ h => h) (Or.inl ⟨by rfl, ?hy19⟩) ?rest19
              case hy19 => (intro w; go_simp; (try with_reducible rfl))
              (try simp only [Act.put, List.getElem_toArray, List.getElem_cons_zero, List.getElem_cons_succ, List.setIfInBounds_toArray, List.set_cons_zero, List.set_cons_succ])
              refine wpAny_ready (rs := [10]) (by kernel_rfl) (by simp) ?_
              refine AllReady.cons (o := ({ dst := none, op := Go.Op.store 22 (Go.Operand.tmp 67) (Go.Operand.tmp 66), type := 0, pos := "law.go:160", after := #[{ on := 9, ground := Go.Ground.data }, { on := 8, ground := Go.Ground.data }, { on := 8, ground := Go.Ground.chain }, { on := 0, ground := Go.Ground.phase }, { on := 1, ground := Go.Ground.phase }, { on := 2, ground := Go.Ground.phase }, { on := 3, ground := Go.Ground.phase }, { on := 4, ground := Go.Ground.phase }, { on := 5, ground := Go.Ground.phase }, { on := 6, ground := Go.Ground.phase }, { on := 7, ground := Go.Ground.phase }, { on := 8, ground := Go.Ground.phase }], guard := none } : Go.Oper)) rfl (fun K hK => ?_) AllReady.nil
              go_simp
              refine hK _ _ ?_
              clear hK K
              (try simp only [Act.put, List.getElem_toArray, List.getElem_cons_zero, List.getElem_cons_succ, List.setIfInBounds_toArray, List.set_cons_zero, List.set_cons_succ])
              refine wpAny_done (by kernel_rfl) ?_ _
            case' more18 =>
              refine AllReady.cons (o := ({ dst := some 64, op := Go.Op.build 47 #[(0, Go.Operand.tmp 62), (1, Go.Operand.const (Go.Value.int Go.IntKind.i64 1)), (2, Go.Operand.const (Go.Value.int Go.IntKind.i64 1)), (3, Go.Operand.tmp 63)], type := 47, pos := "law.go:160", after := #[{ on := 4, ground := Go.Ground.data }, { on := 5, ground := Go.Ground.data }], guard := none } : Go.Oper)) rfl (fun K hK => ?_) AllReady.nil
              go_simp
              refine hK _ _ ?_
              clear hK K
              (try simp only [Act.put, List.getElem_toArray, List.getElem_cons_zero, List.getElem_cons_succ, List.setIfInBounds_toArray, List.set_cons_zero, List.set_cons_succ])
              refine wpAny_ready (rs := [1, 7]) (by kernel_rfl) (by simp) ?_
              refine AllReady.cons (o := ({ dst := some 59, op := Go.Op.load 22 (Go.Operand.tmp 58), type := 22, pos := "law.go:160", after := #[{ on := 0, ground := Go.Ground.data }], guard := none } : Go.Oper)) rfl (fun K hK => ?one20) ?more20
              case' one20 =>
                go_simp
                refine hK _ _ ?_
                clear hK K
                (try simp only [Act.put, List.getElem_toArray, List.getElem_cons_zero, List.getElem_cons_succ, List.setIfInBounds_toArray, List.set_cons_zero, List.set_cons_succ])
                refine wpAny_ready (rs := [7]) (by kernel_rfl) (by simp) ?_
                refine AllReady.cons (o := ({ dst := some 65, op := Go.Op.buildSlice 22 1 #[(0, Go.Operand.tmp 64)], type := 22, pos := "law.go:160", after := #[{ on := 6, ground := Go.Ground.data }], guard := none } : Go.Oper)) rfl (fun K hK => ?_) AllReady.nil
                go_simp
                refine hK _ _ ?_
                clear hK K
                (try simp only [Act.put, List.getElem_toArray, List.getElem_cons_zero, List.getElem_cons_succ, List.setIfInBounds_toArray, List.set_cons_zero, List.set_cons_succ])
                refine wpAny_ready (rs := [8]) (by kernel_rfl) (by simp) ?_
                refine AllReady.cons (o := ({ dst := some 66, op := Go.Op.call { callee := Go.Callee.builtin Go.Builtin.append, args := #[Go.Operand.tmp 59, Go.Operand.tmp 65], argTypes := #[22, 22] }, type := 22, pos := "law.go:160", after := #[{ on := 1, ground := Go.Ground.data }, { on := 7, ground := Go.Ground.data }], guard := none } : Go.Oper)) rfl (fun K hK => ?_) AllReady.nil
                refine step_appL rfl _ _ rfl (w11.heap.size + 1) (.slice Av nv cv) (bigL k) rfl (HO.out.ext (by with_reducible (repeat (first | exact Ext.rfl_ _ | assumption | refine Ext.drew ?_ | refine Ext.drewN ?_ _ | refine Ext.alloc ?_ _ | refine Ext.trans ?_ (by assumption))))) _ 1 1 [bigE k] rfl (by first | exact bigRow1 wr hlt | exact bigRow2 wr hlt) (by rw [bigL_length]; simp; unfold B41; omega) (by simp; omega) ?_; intro v' w' o' g' _; obtain ⟨Av', nv', cv', rfl, _⟩ := o'.formN (by rw [List.length_append, bigL_length]; simp; unfold B41; omega); have hb' := (g'.block w11.heap.size (by simp; omega) (fun e => by have := (HO.out.lt _ e.symm).1; omega)).trans ((show Ext wr _ from (by with_reducible (repeat (first | exact Ext.rfl_ _ | assumption | refine Ext.drew ?_ | refine Ext.drewN ?_ _ | refine Ext.alloc ?_ _ | refine Ext.trans ?_ (by assumption))))).blk HB.out); obtain ⟨p0, p1, pf0, pf1⟩ := box2 hb' (Ext.rfl_ _); have hE' := (HE.out.trans (show Ext wr _ from (by with_reducible (repeat (first | exact Ext.rfl_ _ | assumption | refine Ext.drew ?_ | refine Ext.drewN ?_ _ | refine Ext.alloc ?_ _ | refine Ext.trans ?_ (by assumption)))))).grown g' (fun q hq => by have := (HO.out.lt _ hq).1; omega)
                refine hK _ _ ?_
                clear hK K
                (try simp only [Act.put, List.getElem_toArray, List.getElem_cons_zero, List.getElem_cons_succ, List.setIfInBounds_toArray, List.set_cons_zero, List.set_cons_succ])
                refine wpAny_take (i := 9) (oi := ({ dst := some 67, op := Go.Op.fieldAddr 24 (Go.Operand.tmp 15) 1, type := 0, pos := "law.go:160", after := #[{ on := 0, ground := Go.Ground.phase }, { on := 1, ground := Go.Ground.phase }, { on := 2, ground := Go.Ground.phase }, { on := 3, ground := Go.Ground.phase }, { on := 4, ground := Go.Ground.phase }, { on := 5, ground := Go.Ground.phase }, { on := 6, ground := Go.Ground.phase }, { on := 7, ground := Go.Ground.phase }, { on := 8, ground := Go.Ground.phase }], guard := none } : Go.Oper)) (v := ?v21) rfl (by kernel_rfl) (by kernel_rfl) (by kernel_rfl) (fun _ _ _ h => h) (Or.inl ⟨by rfl, ?hy21⟩) ?rest21
                case hy21 => (intro w; go_simp; (try with_reducible rfl))
                (try simp only [Act.put, List.getElem_toArray, List.getElem_cons_zero, List.getElem_cons_succ, List.setIfInBounds_toArray, List.set_cons_zero, List.set_cons_succ])
                refine wpAny_ready (rs := [10]) (by kernel_rfl) (by simp) ?_
                refine AllReady.cons (o := ({ dst := none, op := Go.Op.store 22 (Go.Operand.tmp 67) (Go.Operand.tmp 66), type := 0, pos := "law.go:160", after := #[{ on := 9, ground := Go.Ground.data }, { on := 8, ground := Go.Ground.data }, { on := 8, ground := Go.Ground.chain }, { on := 0, ground := Go.Ground.phase }, { on := 1, ground := Go.Ground.phase }, { on := 2, ground := Go.Ground.phase }, { on := 3, ground := Go.Ground.phase }, { on := 4, ground := Go.Ground.phase }, { on := 5, ground := Go.Ground.phase }, { on := 6, ground := Go.Ground.phase }, { on := 7, ground := Go.Ground.phase }, { on := 8, ground := Go.Ground.phase }], guard := none } : Go.Oper)) rfl (fun K hK => ?_) AllReady.nil
                go_simp
                refine hK _ _ ?_
                clear hK K
                (try simp only [Act.put, List.getElem_toArray, List.getElem_cons_zero, List.getElem_cons_succ, List.setIfInBounds_toArray, List.set_cons_zero, List.set_cons_succ])
                refine wpAny_done (by kernel_rfl) ?_ _
              case' more20 =>
                refine AllReady.cons (o := ({ dst := some 65, op := Go.Op.buildSlice 22 1 #[(0, Go.Operand.tmp 64)], type := 22, pos := "law.go:160", after := #[{ on := 6, ground := Go.Ground.data }], guard := none } : Go.Oper)) rfl (fun K hK => ?_) AllReady.nil
                go_simp
                refine hK _ _ ?_
                clear hK K
                (try simp only [Act.put, List.getElem_toArray, List.getElem_cons_zero, List.getElem_cons_succ, List.setIfInBounds_toArray, List.set_cons_zero, List.set_cons_succ])
                refine wpAny_ready (rs := [1]) (by kernel_rfl) (by simp) ?_
                refine AllReady.cons (o := ({ dst := some 59, op := Go.Op.load 22 (Go.Operand.tmp 58), type := 22, pos := "law.go:160", after := #[{ on := 0, ground := Go.Ground.data }], guard := none } : Go.Oper)) rfl (fun K hK => ?_) AllReady.nil
                go_simp
                refine hK _ _ ?_
                clear hK K
                (try simp only [Act.put, List.getElem_toArray, List.getElem_cons_zero, List.getElem_cons_succ, List.setIfInBounds_toArray, List.set_cons_zero, List.set_cons_succ])
                refine wpAny_ready (rs := [8]) (by kernel_rfl) (by simp) ?_
                refine AllReady.cons (o := ({ dst := some 66, op := Go.Op.call { callee := Go.Callee.builtin Go.Builtin.append, args := #[Go.Operand.tmp 59, Go.Operand.tmp 65], argTypes := #[22, 22] }, type := 22, pos := "law.go:160", after := #[{ on := 1, ground := Go.Ground.data }, { on := 7, ground := Go.Ground.data }], guard := none } : Go.Oper)) rfl (fun K hK => ?_) AllReady.nil
                refine step_appL rfl _ _ rfl (w11.heap.size + 1) (.slice Av nv cv) (bigL k) rfl (HO.out.ext (by with_reducible (repeat (first | exact Ext.rfl_ _ | assumption | refine Ext.drew ?_ | refine Ext.drewN ?_ _ | refine Ext.alloc ?_ _ | refine Ext.trans ?_ (by assumption))))) _ 1 1 [bigE k] rfl (by first | exact bigRow1 wr hlt | exact bigRow2 wr hlt) (by rw [bigL_length]; simp; unfold B41; omega) (by simp; omega) ?_; intro v' w' o' g' _; obtain ⟨Av', nv', cv', rfl, _⟩ := o'.formN (by rw [List.length_append, bigL_length]; simp; unfold B41; omega); have hb' := (g'.block w11.heap.size (by simp; omega) (fun e => by have := (HO.out.lt _ e.symm).1; omega)).trans ((show Ext wr _ from (by with_reducible (repeat (first | exact Ext.rfl_ _ | assumption | refine Ext.drew ?_ | refine Ext.drewN ?_ _ | refine Ext.alloc ?_ _ | refine Ext.trans ?_ (by assumption))))).blk HB.out); obtain ⟨p0, p1, pf0, pf1⟩ := box2 hb' (Ext.rfl_ _); have hE' := (HE.out.trans (show Ext wr _ from (by with_reducible (repeat (first | exact Ext.rfl_ _ | assumption | refine Ext.drew ?_ | refine Ext.drewN ?_ _ | refine Ext.alloc ?_ _ | refine Ext.trans ?_ (by assumption)))))).grown g' (fun q hq => by have := (HO.out.lt _ hq).1; omega)
                refine hK _ _ ?_
                clear hK K
                (try simp only [Act.put, List.getElem_toArray, List.getElem_cons_zero, List.getElem_cons_succ, List.setIfInBounds_toArray, List.set_cons_zero, List.set_cons_succ])
                refine wpAny_take (i := 9) (oi := ({ dst := some 67, op := Go.Op.fieldAddr 24 (Go.Operand.tmp 15) 1, type := 0, pos := "law.go:160", after := #[{ on := 0, ground := Go.Ground.phase }, { on := 1, ground := Go.Ground.phase }, { on := 2, ground := Go.Ground.phase }, { on := 3, ground := Go.Ground.phase }, { on := 4, ground := Go.Ground.phase }, { on := 5, ground := Go.Ground.phase }, { on := 6, ground := Go.Ground.phase }, { on := 7, ground := Go.Ground.phase }, { on := 8, ground := Go.Ground.phase }], guard := none } : Go.Oper)) (v := ?v22) rfl (by kernel_rfl) (by kernel_rfl) (by kernel_rfl) (fun _ _ _ h => h) (Or.inl ⟨by rfl, ?hy22⟩) ?rest22
                case hy22 => (intro w; go_simp; (try with_reducible rfl))
                (try simp only [Act.put, List.getElem_toArray, List.getElem_cons_zero, List.getElem_cons_succ, List.setIfInBounds_toArray, List.set_cons_zero, List.set_cons_succ])
                refine wpAny_ready (rs := [10]) (by kernel_rfl) (by simp) ?_
                refine AllReady.cons (o := ({ dst := none, op := Go.Op.store 22 (Go.Operand.tmp 67) (Go.Operand.tmp 66), type := 0, pos := "law.go:160", after := #[{ on := 9, ground := Go.Ground.data }, { on := 8, ground := Go.Ground.data }, { on := 8, ground := Go.Ground.chain }, { on := 0, ground := Go.Ground.phase }, { on := 1, ground := Go.Ground.phase }, { on := 2, ground := Go.Ground.phase }, { on := 3, ground := Go.Ground.phase }, { on := 4, ground := Go.Ground.phase }, { on := 5, ground := Go.Ground.phase }, { on := 6, ground := Go.Ground.phase }, { on := 7, ground := Go.Ground.phase }, { on := 8, ground := Go.Ground.phase }], guard := none } : Go.Oper)) rfl (fun K hK => ?_) AllReady.nil
                go_simp
                refine hK _ _ ?_
                clear hK K
                (try simp only [Act.put, List.getElem_toArray, List.getElem_cons_zero, List.getElem_cons_succ, List.setIfInBounds_toArray, List.set_cons_zero, List.set_cons_succ])
                refine wpAny_done (by kernel_rfl) ?_ _
      all_goals
        go_wp2
        go_roundw
        case rel =>
          refine ⟨k + 1, _, by go_num, by omega, Lib.hid (set_box hb' _), Lib.hid ?_, Lib.hid (hE'.setCell (Nat.le_refl _) _)⟩
          rw [bigL_succ]
          refine OwnL.chgN o' hb' (by decide) (fun i z => ?_) (fun e => by have := (o'.lt _ e).1; omega) ((Chg.rfl_ _ _).setCell 1 _)
          match i with
          | 0 => simp
          | 1 => simp
          | i + 2 => simp
        case measure => simp [intOf]; omega
    · obtain rfl : k = 17 := by omega
      have HB17 := Lib.hid (show RdB wr (.agg #[.int .i64 1, .slice Av nv cv]) ⟨1, bigL 17⟩ from ⟨Av, nv, cv, rfl, HRV.out, hcv⟩)
      go_wp2_with fail
      refine (wput_any _ ⟨1, bigL 17⟩ _ HB17.out).mono ?_
      rintro e w12 ⟨v12, rfl, o12, hw12⟩
      rw [big_n]
      obtain ⟨A12, n12, c12, rfl, _⟩ := o12.formN
      have q0' := hw12.keeps _ _ _ q0
      have q1' := hw12.keeps _ _ _ q1
      have HW12 := Lib.hid hw12
      clear o12 hw12 q0 q1
      go_wp2_with (first | (go_at_call 16; refine (num_any _ _).mono ?_; rintro e wn ⟨rfl, rfl⟩))
      refine (wmay_any _ ⟨1, bigL 17⟩ _ (HB17.out.ext HW12.out)).mono ?_
      rintro e w13 ⟨rfl, hw13⟩
      rw [big_may]
      go_wp2_with fail
      refine (known_any _).mono ?_
      rintro e w14 ⟨rfl, hw14⟩
      go_wp2
      go_ret
      exact ⟨rfl, X11.out.trans (HE.out.trans (HW12.out.trans (hw13.trans hw14)))⟩

end Go.Proofs.Ythdahmicjlplcaa
