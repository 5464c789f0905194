/- The law's own batch; plain rows of layer 13. Conditions: none. -/
/- The law's own rows of layer 13: they hold. Conditions: none. -/
import Derived.Test.YthdahmicjlplcaaBatI
import Derived.Test.YthdahmicjlplcaaBatA
import Derived.Test.YthdahmicjlplcaaBytW
import Derived.Test.YthdahmicjlplcaaRdRow
import Derived.Lib.ConvBytes
import Derived.Test.YthdahmicjlplcaaRefB
namespace Go.Proofs.Ythdahmicjlplcaa
set_option linter.unusedSimpArgs false
set_option linter.unusedVariables false
open Go.RowKit

def bt (n : Int) (k : Bs) : Bat := ⟨n, if k = [] then [] else [⟨k, n, 2, []⟩]⟩
def kA : Bs := wrW (bt 1 [97])
def kB : Bs := wrW (bt 2 [])
theorem kmA : mayW (bt 1 [97]) = true := by decide
theorem kmB : mayW (bt 2 []) = true := by decide
theorem klA : (payB (bt 1 [97])).length = 8 := by decide
theorem klB : (payB (bt 2 [])).length = 3 := by decide
theorem kfA : mayF (payB (bt 1 [97])).length = true := by rw [klA]; decide
theorem kfB : mayF (payB (bt 2 [])).length = true := by rw [klB]; decide
theorem keA : kA = frmB (payB (bt 1 [97])) := by unfold kA wrW; rw [if_pos ⟨kmA, kfA⟩]
theorem keB : kB = frmB (payB (bt 2 [])) := by unfold kB wrW; rw [if_pos ⟨kmB, kfB⟩]
theorem knA : wrWN (bt 1 [97]) = 0 := by unfold wrWN; rw [if_pos kmA, if_pos kfA]
theorem knB : wrWN (bt 2 []) = 0 := by unfold wrWN; rw [if_pos kmB, if_pos kfB]
theorem knC : wrWN (bt 0 []) = 2 := by unfold wrWN; rw [if_neg (by decide)]
theorem kzA : kA.length = 16 := by rw [keA, frm_len, klA]
theorem kzB : kB.length = 11 := by rw [keB, frm_len, klB]
theorem kAB : batW (kA ++ kB) = [bt 1 [97], bt 2 []] ∧ okW (kA ++ kB) = true ∧ sizeW (kA ++ kB) = 27 := by
  have h := log_torn (l := [bt 1 [97], bt 2 []]) (r := []) (by
    intro x hx
    rcases List.mem_cons.1 hx with rfl | hx
    · exact ⟨kmA, kfA⟩
    · obtain rfl := List.mem_singleton.1 hx
      exact ⟨kmB, kfB⟩) (by decide) (by decide) (by intro h; exact absurd h (by decide))
  have e : ([bt 1 [97], bt 2 []].map fun x => frmB (payB x)).flatten ++ [] = kA ++ kB := by
    simp [keA, keB]
  rw [e] at h
  refine ⟨h.1, h.2.1, h.2.2.trans ?_⟩
  have e2 : ([bt 1 [97], bt 2 []].map fun x => frmB (payB x)).flatten = kA ++ kB := by simp [keA, keB]
  rw [e2, List.length_append, kzA, kzB]
theorem kBA : batW (kB ++ kA) = [bt 2 []] ∧ okW (kB ++ kA) = false ∧ sizeW (kB ++ kA) = 11 := by
  have hf : frs (kB ++ kA) = [payB (bt 2 []), payB (bt 1 [97])] := by
    have : kB ++ kA = frmB (payB (bt 2 [])) ++ (frmB (payB (bt 1 [97])) ++ []) := by simp [keA, keB]
    rw [this, frs_frm kfB, frs_frm kfA, frs_no (by decide)]
  have hg : goW none (frs (kB ++ kA)) = ([bt 2 []], false) := by
    rw [hf]
    exact GW.stop (p := payB (bt 1 [97])) ((GW.start _).step rfl (readW_pay kmB kfB) rfl) rfl (.inr ⟨_, readW_pay kmA kfA, by decide⟩)
  have hb := batW_of hg
  refine ⟨hb.1, by rw [hb.2.1]; rfl, ?_⟩
  rw [hb.2.2, hf]
  simp only [List.length_singleton, List.take_succ_cons, List.take_zero, endF, klB]
theorem kAA : batW (kA ++ kA.take 8) = [bt 1 [97]] ∧ okW (kA ++ kA.take 8) = true ∧ sizeW (kA ++ kA.take 8) = 16 := by
  have hp := isF_part (p := payB (bt 1 [97])) (k := 8) kfA (by rw [frm_len, klA]; decide)
  rw [← keA] at hp
  have h := log_torn (l := [bt 1 [97]]) (r := kA.take 8) (by
    intro x hx
    obtain rfl := List.mem_singleton.1 hx
    exact ⟨kmA, kfA⟩) (by decide) hp.1 hp.2
  have e2 : ([bt 1 [97]].map fun x => frmB (payB x)).flatten = kA := by simp [keA]
  rw [e2] at h
  exact ⟨h.1, h.2.1, h.2.2.trans kzA⟩
theorem kaf : aftW (kA ++ kB) 1 = [bt 2 []] := by
  unfold aftW
  rw [kAB.1]
  decide

set_option maxRecDepth 100000 in
set_option maxHeartbeats 1000000 in
theorem lbatch0_any (n : Int) (w : World) :
    Calls Try.prog 22 #[.int .i64 n, .string ⟨#[]⟩] w fun e w' => e = .returned (.agg #[.int .i64 n, .slice none 0 0]) ∧ Ext w w' := by
  have b0 := heap_alloc_new w (.cells #[.int .i64 n, .slice none 0 0] 24)
  obtain ⟨q0, q1, _, _⟩ := box2 b0 (show Ext _ ((w.alloc (.cells #[.int .i64 n, .slice none 0 0] 24)).alloc (.cells #[.int .i64 n, .slice none 0 0] 24)) from (by with_reducible (repeat (first | exact Ext.rfl_ _ | assumption | refine Ext.drew ?_ | refine Ext.drewN ?_ _ | refine Ext.alloc ?_ _ | refine Ext.trans ?_ (by assumption)))))
  go_enter Try.func22, Try.ntmps22
  go_wp2
  refine bodyPost_ret (v := .agg #[.int .i64 n, .slice none 0 0]) ?_ rfl ?_
  · simp [results, Try.f22, go_sem, q0, q1]
  · exact ⟨rfl, (by with_reducible (repeat (first | exact Ext.rfl_ _ | assumption | refine Ext.drew ?_ | refine Ext.drewN ?_ _ | refine Ext.alloc ?_ _ | refine Ext.setCell ?_ (by first | (simp; done) | (simp; omega)) _ | refine Ext.trans ?_ (by assumption))))⟩

set_option maxRecDepth 100000 in
set_option maxHeartbeats 1000000 in
theorem lbatch1_any (n : Int) (k : Bs) (w : World) (hk : k.length ≤ B40) (h0 : k ≠ []) :
    Calls Try.prog 22 #[.int .i64 n, .string ⟨k.toArray⟩] w fun e w' => ∃ u, e = .returned u ∧ RdB w' u (bt n k) ∧ Ext w w' := by
  have hc := fun (w : World) (s : ByteArray) => Lib.run_convert_string_bytes (P := Try.prog) w 9 29 5 s Try.underlying9 Try.underlying29 Try.underlying5
  have hne : (ByteArray.mk k.toArray == ByteArray.mk #[]) = false := by
    cases k with
    | nil => exact absurd rfl h0
    | cons a k => rfl
  have b4 := heap_alloc_new w (.cells #[.int .i64 0, .slice none 0 0] 24)
  have b5 := heap_alloc_new (w.alloc (.cells #[.int .i64 0, .slice none 0 0] 24)) (.cells #[.int .i64 n, .slice none 0 0] 24)
  rw [World.size_alloc] at b5
  have hg := grownCap_ge ((w.alloc (.cells #[.int .i64 0, .slice none 0 0] 24)).alloc (.cells #[.int .i64 n, .slice none 0 0] 24)) k.length 0 5
  have hr := bytesWorld_rd ((w.alloc (.cells #[.int .i64 0, .slice none 0 0] 24)).alloc (.cells #[.int .i64 n, .slice none 0 0] 24)) 5 k
  have hx := bytesWorld_ext ((w.alloc (.cells #[.int .i64 0, .slice none 0 0] 24)).alloc (.cells #[.int .i64 n, .slice none 0 0] 24)) 5 ⟨k.toArray⟩
  obtain ⟨ck, hck⟩ : ∃ z, z = grownCap ((w.alloc (.cells #[.int .i64 0, .slice none 0 0] 24)).alloc (.cells #[.int .i64 n, .slice none 0 0] 24)) k.length 0 5 := ⟨_, rfl⟩
  rw [← hck] at hg
  obtain ⟨V, hV⟩ : ∃ V, V = Lib.bytesWorld ((w.alloc (.cells #[.int .i64 0, .slice none 0 0] 24)).alloc (.cells #[.int .i64 n, .slice none 0 0] 24)) 5 ⟨k.toArray⟩ := ⟨_, rfl⟩
  rw [← hV] at hr hx
  rw [World.size_alloc, World.size_alloc] at hr
  obtain ⟨p0, p1, pf0, pf1⟩ := box2 b4 (show Ext _ V from (show Ext (w.alloc _) ((w.alloc (.cells #[.int .i64 0, .slice none 0 0] 24)).alloc (.cells #[.int .i64 n, .slice none 0 0] 24)) from (by with_reducible (repeat (first | exact Ext.rfl_ _ | assumption | refine Ext.drew ?_ | refine Ext.drewN ?_ _ | refine Ext.alloc ?_ _ | refine Ext.trans ?_ (by assumption))))).trans hx)
  obtain ⟨q0, q1, qf0, qf1⟩ := box2 b5 hx
  have l0 := cell_lt p0
  have l1 := cell_lt q0
  have hcc : Sem.run Try.prog (convert 9 29 (.string ⟨k.toArray⟩)) ((w.alloc (.cells #[.int .i64 0, .slice none 0 0] 24)).alloc (.cells #[.int .i64 n, .slice none 0 0] 24)) = .ok (.slice (some ⟨w.heap.size + 1 + 1, 0, none⟩) k.length ck) V := by
    have := hc ((w.alloc (.cells #[.int .i64 0, .slice none 0 0] 24)).alloc (.cells #[.int .i64 n, .slice none 0 0] 24)) ⟨k.toArray⟩
    rw [World.size_alloc, World.size_alloc] at this
    rw [this, hck, hV]
    rfl
  have HV := Lib.hid (show Ext w V from Ext.trans (show Ext w ((w.alloc (.cells #[.int .i64 0, .slice none 0 0] 24)).alloc (.cells #[.int .i64 n, .slice none 0 0] 24)) from (by with_reducible (repeat (first | exact Ext.rfl_ _ | assumption | refine Ext.drew ?_ | refine Ext.drewN ?_ _ | refine Ext.alloc ?_ _ | refine Ext.trans ?_ (by assumption))))) hx)
  have HR := Lib.hid hr
  have HG := Lib.hid hg
  have HK := Lib.hid hk
  clear hc b4 b5 hg hr hx hck hV hk
  have hem : k.isEmpty = false := by
    cases k with
    | nil => exact absurd rfl h0
    | cons a k => rfl
  go_enter Try.func22, Try.ntmps22
  go_wp2
  obtain ⟨S, hS⟩ : ∃ S, S = ((V.setCell ⟨w.heap.size + 1, 1, none⟩ (.slice (some ⟨V.heap.size, 0, none⟩) 1 1)).setCell ⟨w.heap.size, 0, none⟩ (.int .i64 n)).setCell ⟨w.heap.size, 1, none⟩ (.slice (some ⟨V.heap.size, 0, none⟩) 1 1) := ⟨_, rfl⟩
  have hzS : S.heap.size = V.heap.size := by rw [hS]; simp [World.setCell]
  have hw := HV.out
  have hi1 : Hi (w.heap.size + 1 + 1) (some ⟨w.heap.size + 1 + 1, 0, none⟩) k.length := fun _ a e => by cases e; exact Nat.le_refl _
  have hRS : Rd S (some ⟨w.heap.size + 1 + 1, 0, none⟩) k.length k := by rw [hS]; exact Rd.setCell (Rd.setCell (Rd.setCell HR.out hi1 (by dsimp only; omega) _) hi1 (by dsimp only; omega) _) hi1 (by dsimp only; omega) _
  have hXS : Ext w S := by rw [hS]; exact (by with_reducible (repeat (first | exact Ext.rfl_ _ | assumption | refine Ext.drew ?_ | refine Ext.drewN ?_ _ | refine Ext.alloc ?_ _ | refine Ext.setCell ?_ (by first | (simp; done) | (simp; omega)) _ | refine Ext.trans ?_ (by assumption))))
  have c0 : S.cell? ⟨w.heap.size, 0, none⟩ = some (.int .i64 n) := by
    rw [hS, World.cell?_setCell_other _ _ _ _ (fun e => by simp at e)]
    exact World.cell?_setCell_same' _ _ _ (by rw [World.cell?_setCell_other _ _ _ _ (fun e => by simp at e), p0]; rfl)
  have c1 : S.cell? ⟨w.heap.size, 1, none⟩ = some (.slice (some ⟨V.heap.size, 0, none⟩) 1 1) := by
    rw [hS]
    exact World.cell?_setCell_same' _ _ _ (by rw [World.cell?_setCell_other _ _ _ _ (fun e => by simp at e), World.cell?_setCell_other _ _ _ _ (fun e => by simp at e), p1]; rfl)
  rw [← hS]
  clear hS
  have hX2 : Ext S (S.alloc (.cells #[.slice (some ⟨w.heap.size + 1 + 1, 0, none⟩) k.length ck, .int .i64 n, .int .i64 2, .slice none 0 0] 47)) := Ext.alloc (Ext.rfl_ _) _
  have d0 := hX2.keeps _ _ _ c0
  have d1 := hX2.keeps _ _ _ c1
  refine bodyPost_ret (v := .agg #[.int .i64 n, .slice (some ⟨V.heap.size, 0, none⟩) 1 1]) (by simp [results, Try.f22, go_sem, d0, d1]) rfl ?_
  have hrow := rdl_row (w := S) 47 (hs := [⟨some ⟨w.heap.size + 1 + 1, 0, none⟩, k.length, ck, none, 0, 0⟩]) (xs := [⟨k, n, 2, []⟩]) rfl (show 1 ≤ B41 by decide) (by
    intro j i1 i2
    obtain rfl : j = 0 := by simp at i2; exact i2
    exact ⟨_, k.length, ck, none, 0, 0, rfl, hRS, Rd.nil _ _, HG.out, Nat.le_trans HK.out (by decide), Nat.le_refl _, by decide⟩)
  rw [hzS] at hrow
  have hes : (bt n k).es = [⟨k, n, 2, []⟩] := by simp [bt, h0]
  exact ⟨_, rfl, ⟨_, 1, 1, rfl, by rw [hes]; exact hrow, Nat.le_refl _⟩, hXS.trans hX2⟩


open Go.RowKit

/-- 'append(out, b...)' of bytes under a guard that holds. -/
theorem wp_appG {ops : Array Oper} {rest : List Oper} {o : Oper} {a : Act} {w : World} {Q : Exit → Act → World → Prop} (hwd : Region.wanted o (yielded ops a.tmps) = true) (s x : Operand)
    (ho : o.op = .call { callee := .builtin .append, args := #[s, x], argTypes := #[29, 29] })
    (base : Nat) (v : Value) (y : Bs) (hs : a.eval s = v) (hown : OwnB w base v y) (A : Option Addr) (m c : Nat) (z : Bs) (hx : a.eval x = .slice A m c) (hr : Rd w A m z)
    (hsz : y.length + z.length ≤ B47) (hbase : base ≤ w.heap.size)
    (h : ∀ v' w', OwnB w' base v' (y ++ z) → w.grownBy w' v.ownBlock → wpList Try.prog ops Q rest (a.put o.dst v') w') : wpList Try.prog ops Q (o :: rest) a w := by
  obtain ⟨v', w', hrun, h1, h2, h3⟩ := run_app w o.type base v y hown A m c z hr hsz hbase
  refine wpList_step fun K hK => ?_
  rw [if_pos hwd]
  unfold Oper.wp
  simp [execOp, ho, resolve, invoke, builtin, hs, hx, hrun, Result.andThen]
  exact hK _ _ (h v' w' h1 h2)

theorem RdLB.two {w : World} {g : Nat} {t : TypeId} {fr : Nat × Nat} {x y : Bat} {A B : Option Addr} {n c m d : Nat} (h : w.heap[g]? = some (.cells #[.int .i64 x.idx, .slice A n c, .int .i64 y.idx, .slice B m d] t fr)) (hr : RdL w A n x.es) (hc : n ≤ c) (hr2 : RdL w B m y.es) (hd : m ≤ d) : RdLB w (some ⟨g, 0, none⟩) 2 [x, y] :=
  ⟨rfl, by decide, fun _ => ⟨g, 0, rfl, fun k hk => by
    match k, hk with
    | 0, _ => exact ⟨A, n, c, by simp [World.cell?, h], by simp [World.cell?, h], hr, hc⟩
    | 1, _ => exact ⟨B, m, d, by simp [World.cell?, h], by simp [World.cell?, h], hr2, hd⟩⟩⟩

set_option maxRecDepth 100000 in
set_option maxHeartbeats 8000000 in
theorem known_any (w : World) : Calls Try.prog 10 #[] w fun e w' => e = .returned (.bool true) ∧ Ext w w' := by
  go_enter Try.func10, Try.ntmps10
  go_wp2_with fail
  refine (lbatch1_any 1 [97] _ (by decide) (by decide)).mono ?_
  rintro e w1 ⟨u1, rfl, hu1, hw1⟩
  obtain ⟨A1, n1, c1, rfl, _⟩ := id hu1
  go_wp2_with fail
  refine (wput_any _ (bt 1 [97]) _ hu1).mono ?_
  rintro e w2 ⟨v2, rfl, o2, hw2⟩
  rw [knA]
  obtain ⟨Aa, na, ca, rfl, la, ra, _⟩ := o2.formN
  obtain rfl : na = 16 := ra.1.symm.trans kzA
  obtain ⟨ba, oa, rfl, _⟩ := ra.2 (by decide)
  have RA2 := Lib.hid (show Rd w2 (some ⟨ba, oa, none⟩) 16 kA from ra)
  have X2 := Lib.hid (hw1.trans hw2)
  clear hu1 o2 ra hw1 hw2
  go_wp2_with fail
  refine (lbatch0_any 2 _).mono ?_
  rintro e w3 ⟨rfl, hw3⟩
  go_wp2_with fail
  refine (wput_any _ (bt 2 []) _ ⟨none, 0, 0, rfl, RdL.nil _ _, Nat.le_refl _⟩).mono ?_
  rintro e w4 ⟨v4, rfl, o4, hw4⟩
  rw [knB]
  obtain ⟨Ab, nb, cb, rfl, lb, rb, _⟩ := o4.formN
  obtain rfl : nb = 11 := rb.1.symm.trans kzB
  have RB4 := Lib.hid (show Rd w4 Ab 11 kB from rb)
  have X4 := Lib.hid (hw3.trans hw4)
  clear o4 rb hw3 hw4
  go_wp2_with fail
  refine (lbatch0_any 0 _).mono ?_
  rintro e w5 ⟨rfl, hw5⟩
  go_wp2_with fail
  refine (wput_any _ (bt 0 []) _ ⟨none, 0, 0, rfl, RdL.nil _ _, Nat.le_refl _⟩).mono ?_
  rintro e w6 ⟨v6, rfl, o6, hw6⟩
  rw [knC]
  obtain ⟨Ac, nc, cc, rfl, _⟩ := o6.formN
  have X46 := Lib.hid (hw5.trans hw6)
  have X6 := Lib.hid ((X2.out.trans X4.out).trans X46.out)
  have RA := Lib.hid (RA2.out.ext (X4.out.trans X46.out))
  have RB := Lib.hid (RB4.out.ext X46.out)
  clear o6 hw5 hw6 RA2 RB4 X46 X2 X4
  go_wp2_with (first | (at_builtin; refine wp_app rfl _ _ rfl w6.heap.size (.slice none 0 0) [] rfl (OwnB.nil _ _) (some ⟨ba, oa, none⟩) 16 ca kA rfl RA.out (by rw [kzA]; decide) (Nat.le_refl _) ?_; intro v7 w7 o7 g7; have X7 := Lib.hid (show Ext w6 w7 from Ext.growBy (Ext.rfl_ w6) g7 (OwnB.nil _ _) (Nat.le_refl _)); have O7 := Lib.hid o7; clear o7 g7) | (at_builtin; refine wp_app rfl _ _ rfl w6.heap.size v7 ([] ++ kA) rfl O7.out Ab 11 cb kB rfl (RB.out.ext X7.out) (by rw [List.nil_append, kzA, kzB]; decide) X7.out.size ?_; intro v8 w8 o8 g8; have X8 := Lib.hid (show Ext w6 w8 from Ext.growBy X7.out g8 O7.out (Nat.le_refl _)); obtain ⟨A8, n8, c8, rfl, l8, r8, _⟩ := o8.formN; obtain rfl : n8 = 27 := (by rw [← r8.1, List.nil_append, List.length_append, kzA, kzB]); have R8 := Lib.hid r8; clear o8 g8 r8))
  refine (wbatches_any A8 27 c8 (kA ++ kB) _ R8.out l8 (by decide)).mono ?_
  rintro e w9 ⟨v9, rfl, o9, hw9⟩
  rw [kAB.1] at o9
  rw [kAB.2.1, kAB.2.2]
  obtain ⟨A9, n9, c9, rfl, l9, r9⟩ := o9.formN (by decide)
  obtain rfl : n9 = 2 := r9.1.symm
  have R9 := Lib.hid r9
  have X9 := Lib.hid (X8.out.trans hw9)
  clear o9 r9 hw9 O7 X7 R8 X8
  go_wp2_with (first | (at_builtin; refine wp_app rfl _ _ rfl w9.heap.size (.slice none 0 0) [] rfl (OwnB.nil _ _) Ab 11 cb kB rfl (RB.out.ext X9.out) (by rw [kzB]; decide) (Nat.le_refl _) ?_; intro v10 w10 o10 g10; have X10 := Lib.hid (show Ext w9 w10 from Ext.growBy (Ext.rfl_ w9) g10 (OwnB.nil _ _) (Nat.le_refl _)); have O10 := Lib.hid o10; clear o10 g10) | (at_builtin; refine wp_app rfl _ _ rfl w9.heap.size v10 ([] ++ kB) rfl O10.out (some ⟨ba, oa, none⟩) 16 ca kA rfl (RA.out.ext (X9.out.trans X10.out)) (by rw [List.nil_append, kzA, kzB]; decide) X10.out.size ?_; intro v11 w11 o11 g11; have X11 := Lib.hid (show Ext w9 w11 from Ext.growBy X10.out g11 O10.out (Nat.le_refl _)); obtain ⟨A11, n11, c11, rfl, l11, r11, _⟩ := o11.formN; obtain rfl : n11 = 27 := (by rw [← r11.1, List.nil_append, List.length_append, kzA, kzB]); have R11 := Lib.hid r11; clear o11 g11 r11))
  refine (wbatches_any A11 27 c11 (kB ++ kA) _ R11.out l11 (by decide)).mono ?_
  rintro e w12 ⟨v12, rfl, o12, hw12⟩
  rw [kBA.1] at o12
  rw [kBA.2.1, kBA.2.2]
  obtain ⟨A12, n12, c12, rfl, l12, r12⟩ := o12.formN (by decide)
  obtain rfl : n12 = 1 := r12.1.symm
  have R12 := Lib.hid r12
  have X12 := Lib.hid (X11.out.trans hw12)
  clear o12 r12 hw12 O10 X10 R11 X11
  go_wp2
  have hlc : (8 : Int) ≤ (ca : Int) := by omega
  have hw8 : IntKind.i64.wrap 8 = 8 := rfl
  have RA12 := Lib.hid (RA.out.ext (X9.out.trans X12.out))
  have RT12 := Lib.hid (RA12.out.front 8 (by decide))
  refine wp_region_held_drew (S := (fun _ => True)) (by kernel_rfl) (by (try dsimp only); try exact trivial) (fun hHeld => ?_)
  refine wpAnyH_take (i := 0) (oi := ({ dst := some 50, op := Go.Op.move (Go.Operand.tmp 1), type := 29, pos := "law.go:31", after := #[], guard := none } : Go.Oper)) (v := ?v1) rfl (by kernel_rfl) (by kernel_rfl) (by kernel_rfl) (fun _ _ _ h => h) (Or.inl ⟨by rfl, ?hy1⟩) (by assumption) ?rest1
  case hy1 => (intro w hSw; (try dsimp only at hSw); go_simp; (try with_reducible rfl))
  (try simp only [Act.put, List.getElem_toArray, List.getElem_cons_zero, List.getElem_cons_succ, List.setIfInBounds_toArray, List.set_cons_zero, List.set_cons_succ])
  refine wpAnyH_take (i := 2) (oi := ({ dst := some 52, op := Go.Op.move (Go.Operand.tmp 1), type := 29, pos := "law.go:31", after := #[], guard := none } : Go.Oper)) (v := ?v2) rfl (by kernel_rfl) (by kernel_rfl) (by kernel_rfl) (fun _ _ _ h => h) (Or.inl ⟨by rfl, ?hy2⟩) (by assumption) ?rest2
  case hy2 => (intro w hSw; (try dsimp only at hSw); go_simp; (try with_reducible rfl))
  (try simp only [Act.put, List.getElem_toArray, List.getElem_cons_zero, List.getElem_cons_succ, List.setIfInBounds_toArray, List.set_cons_zero, List.set_cons_succ])
  refine wpAnyH_take (i := 3) (oi := ({ dst := some 53, op := Go.Op.move (Go.Operand.tmp 1), type := 29, pos := "law.go:31", after := #[], guard := none } : Go.Oper)) (v := ?v3) rfl (by kernel_rfl) (by kernel_rfl) (by kernel_rfl) (fun _ _ _ h => h) (Or.inl ⟨by rfl, ?hy3⟩) (by assumption) ?rest3
  case hy3 => (intro w hSw; (try dsimp only at hSw); go_simp; (try with_reducible rfl))
  (try simp only [Act.put, List.getElem_toArray, List.getElem_cons_zero, List.getElem_cons_succ, List.setIfInBounds_toArray, List.set_cons_zero, List.set_cons_succ])
  refine wpAnyH_take (i := 4) (oi := ({ dst := some 54, op := Go.Op.call { callee := Go.Callee.builtin Go.Builtin.len, args := #[Go.Operand.tmp 53], argTypes := #[29] }, type := 3, pos := "law.go:31", after := #[{ on := 3, ground := Go.Ground.data }], guard := none } : Go.Oper)) (v := ?v4) rfl (by kernel_rfl) (by kernel_rfl) (by kernel_rfl) (fun _ _ _ h => h) (Or.inl ⟨by rfl, ?hy4⟩) (by assumption) ?rest4
  case hy4 => (intro w hSw; (try dsimp only at hSw); go_simp; (try with_reducible rfl))
  (try simp only [Act.put, List.getElem_toArray, List.getElem_cons_zero, List.getElem_cons_succ, List.setIfInBounds_toArray, List.set_cons_zero, List.set_cons_succ])
  refine wpAnyH_take (i := 5) (oi := ({ dst := some 55, op := Go.Op.binOp Go.BinOp.quo 3 (Go.Operand.tmp 54) (Go.Operand.const (Go.Value.int Go.IntKind.i64 2)) 3, type := 3, pos := "law.go:31", after := #[{ on := 4, ground := Go.Ground.data }], guard := none } : Go.Oper)) (v := ?v5) rfl (by kernel_rfl) (by kernel_rfl) (by kernel_rfl) (fun _ _ _ h => h) (Or.inl ⟨by rfl, ?hy5⟩) (by assumption) ?rest5
  case hy5 => (intro w hSw; (try dsimp only at hSw); go_simp; (try with_reducible rfl))
  (try simp only [Act.put, List.getElem_toArray, List.getElem_cons_zero, List.getElem_cons_succ, List.setIfInBounds_toArray, List.set_cons_zero, List.set_cons_succ])
  refine wpAnyH_take (i := 6) (oi := ({ dst := some 56, op := Go.Op.slice 29 (Go.Operand.tmp 52) none (some (Go.Operand.tmp 55)) none, type := 29, pos := "law.go:31", after := #[{ on := 2, ground := Go.Ground.data }, { on := 5, ground := Go.Ground.data }], guard := none } : Go.Oper)) (v := ?v6) rfl (by kernel_rfl) (by kernel_rfl) (by kernel_rfl) (fun _ _ _ h => h) (Or.inl ⟨by rfl, ?hy6⟩) (by assumption) ?rest6
  case hy6 => (intro w hSw; (try dsimp only at hSw); go_simp; (try with_reducible rfl))
  (try simp only [Act.put, List.getElem_toArray, List.getElem_cons_zero, List.getElem_cons_succ, List.setIfInBounds_toArray, List.set_cons_zero, List.set_cons_succ])
  refine wpAnyH_ready (rs := [1]) (by kernel_rfl) (by simp) ?_
  refine AllReadyH.cons (o := ({ dst := some 51, op := Go.Op.call { callee := Go.Callee.builtin Go.Builtin.append, args := #[Go.Operand.const (Go.Value.slice none 0 0), Go.Operand.tmp 50], argTypes := #[29, 29] }, type := 29, pos := "law.go:31", after := #[{ on := 0, ground := Go.Ground.data }], guard := none } : Go.Oper)) rfl (fun K hK => ?_) AllReadyH.nil
  refine step_app rfl _ _ rfl w12.heap.size (.slice none 0 0) [] rfl (OwnB.nil _ _) (some ⟨ba, oa, none⟩) 16 ca kA rfl (RA12.out.ext (by with_reducible (repeat (first | exact Ext.rfl_ _ | assumption | refine Ext.drew ?_ | refine Ext.drewN ?_ _ | refine Ext.alloc ?_ _ | refine Ext.trans ?_ (by assumption))))) (by rw [kzA]; decide) (Nat.le_refl _) ?_; intro v13 w13 o13 g13 _; have X13 : Ext w12 w13 := Ext.growBy (show Ext w12 _ from (by with_reducible (repeat (first | exact Ext.rfl_ _ | assumption | refine Ext.drew ?_ | refine Ext.drewN ?_ _ | refine Ext.alloc ?_ _ | refine Ext.trans ?_ (by assumption))))) g13 (OwnB.nil _ _) (Nat.le_refl _)
  refine hK.out _ _ (by (try dsimp only); try exact trivial) (fun hHeld => ?_)
  clear hK K
  (try simp only [Act.put, List.getElem_toArray, List.getElem_cons_zero, List.getElem_cons_succ, List.setIfInBounds_toArray, List.set_cons_zero, List.set_cons_succ])
  refine wpAnyH_ready (rs := [7]) (by kernel_rfl) (by simp) ?_
  refine AllReadyH.cons (o := ({ dst := some 57, op := Go.Op.call { callee := Go.Callee.builtin Go.Builtin.append, args := #[Go.Operand.tmp 51, Go.Operand.tmp 56], argTypes := #[29, 29] }, type := 29, pos := "law.go:31", after := #[{ on := 1, ground := Go.Ground.data }, { on := 6, ground := Go.Ground.data }, { on := 1, ground := Go.Ground.chain }], guard := none } : Go.Oper)) rfl (fun K hK => ?_) AllReadyH.nil
  refine step_app rfl _ _ rfl w12.heap.size v13 ([] ++ kA) rfl o13 (some ⟨ba, oa, none⟩) 8 ca (kA.take 8) rfl (RT12.out.ext (by with_reducible (repeat (first | exact Ext.rfl_ _ | assumption | refine Ext.drew ?_ | refine Ext.drewN ?_ _ | refine Ext.alloc ?_ _ | refine Ext.trans ?_ (by assumption))))) (by rw [List.nil_append, List.length_take, kzA]; decide) X13.size ?_; intro v14 w14 o14 g14 _; have X14 : Ext w12 w14 := Ext.growBy X13 g14 o13 (Nat.le_refl _)
  refine hK.out _ _ (by (try dsimp only); try exact trivial) (fun hHeld => ?_)
  clear hK K
  (try simp only [Act.put, List.getElem_toArray, List.getElem_cons_zero, List.getElem_cons_succ, List.setIfInBounds_toArray, List.set_cons_zero, List.set_cons_succ])
  refine wpAnyH_ready (rs := [8]) (by kernel_rfl) (by simp) ?_
  refine AllReadyH.cons (o := ({ dst := some 58, op := Go.Op.call { callee := Go.Callee.value (Go.Operand.func 19), args := #[Go.Operand.tmp 57], argTypes := #[29] }, type := 38, pos := "law.go:31", after := #[{ on := 7, ground := Go.Ground.data }, { on := 7, ground := Go.Ground.chain }], guard := none } : Go.Oper)) rfl (fun K hK => ?_) AllReadyH.nil
  go_simp
  obtain ⟨A14, n14, c14, rfl, l14, r14, _⟩ := o14.formN; obtain rfl : n14 = 24 := (by rw [← r14.1, List.nil_append, List.length_append, List.length_take, kzA]; decide); refine (wbatches_any A14 24 c14 (kA ++ kA.take 8) _ r14 l14 (by decide)).mono ?_; rintro e w15 ⟨v15, rfl, o15, hw15⟩; rw [kAA.1] at o15; rw [kAA.2.1, kAA.2.2]; obtain ⟨A15, n15, c15, rfl, l15, r15⟩ := o15.formN (by decide); obtain rfl : n15 = 1 := r15.1.symm
  (try (go_wp2_with fail))
  refine hK.out _ _ (by (try dsimp only); try exact trivial) (fun hHeld => ?_)
  clear hK K
  (try simp only [Act.put, List.getElem_toArray, List.getElem_cons_zero, List.getElem_cons_succ, List.setIfInBounds_toArray, List.set_cons_zero, List.set_cons_succ])
  refine wpAnyH_take (i := 9) (oi := ({ dst := some 49, op := Go.Op.move (Go.Operand.tmp 58), type := 38, pos := "law.go:31", after := #[{ on := 8, ground := Go.Ground.data }], guard := none } : Go.Oper)) (v := ?v7) rfl (by kernel_rfl) (by kernel_rfl) (by kernel_rfl) (fun _ _ _ h => h) (Or.inl ⟨by rfl, ?hy7⟩) (by assumption) ?rest7
  case hy7 => (intro w hSw; (try dsimp only at hSw); go_simp; (try with_reducible rfl))
  (try simp only [Act.put, List.getElem_toArray, List.getElem_cons_zero, List.getElem_cons_succ, List.setIfInBounds_toArray, List.set_cons_zero, List.set_cons_succ])
  refine wpAnyH_take (i := 10) (oi := ({ dst := some 59, op := Go.Op.extract (Go.Operand.tmp 49) 0, type := 26, pos := "law.go:31", after := #[{ on := 9, ground := Go.Ground.data }], guard := none } : Go.Oper)) (v := ?v8) rfl (by kernel_rfl) (by kernel_rfl) (by kernel_rfl) (fun _ _ _ h => h) (Or.inl ⟨by rfl, ?hy8⟩) (by assumption) ?rest8
  case hy8 => (intro w hSw; (try dsimp only at hSw); go_simp; (try with_reducible rfl))
  (try simp only [Act.put, List.getElem_toArray, List.getElem_cons_zero, List.getElem_cons_succ, List.setIfInBounds_toArray, List.set_cons_zero, List.set_cons_succ])
  refine wpAnyH_take (i := 11) (oi := ({ dst := some 60, op := Go.Op.extract (Go.Operand.tmp 49) 1, type := 3, pos := "law.go:31", after := #[{ on := 9, ground := Go.Ground.data }, { on := 13, ground := Go.Ground.gcOnly Go.Departure.lateStores }], guard := none } : Go.Oper)) (v := ?v9) rfl (by kernel_rfl) (by kernel_rfl) (by kernel_rfl) (fun _ _ _ h => h) (Or.inl ⟨by rfl, ?hy9⟩) (by assumption) ?rest9
  case hy9 => (intro w hSw; (try dsimp only at hSw); go_simp; (try with_reducible rfl))
  (try simp only [Act.put, List.getElem_toArray, List.getElem_cons_zero, List.getElem_cons_succ, List.setIfInBounds_toArray, List.set_cons_zero, List.set_cons_succ])
  refine wpAnyH_take (i := 12) (oi := ({ dst := some 61, op := Go.Op.extract (Go.Operand.tmp 49) 2, type := 4, pos := "law.go:31", after := #[{ on := 9, ground := Go.Ground.data }, { on := 14, ground := Go.Ground.gcOnly Go.Departure.lateStores }], guard := none } : Go.Oper)) (v := ?v10) rfl (by kernel_rfl) (by kernel_rfl) (by kernel_rfl) (fun _ _ _ h => h) (Or.inl ⟨by rfl, ?hy10⟩) (by assumption) ?rest10
  case hy10 => (intro w hSw; (try dsimp only at hSw); go_simp; (try with_reducible rfl))
  (try simp only [Act.put, List.getElem_toArray, List.getElem_cons_zero, List.getElem_cons_succ, List.setIfInBounds_toArray, List.set_cons_zero, List.set_cons_succ])
  refine wpAnyH_take (i := 13) (oi := ({ dst := some 13, op := Go.Op.assign (Go.Operand.tmp 59), type := 26, pos := "law.go:31", after := #[{ on := 10, ground := Go.Ground.data }, { on := 8, ground := Go.Ground.chain }, { on := 0, ground := Go.Ground.phase }, { on := 1, ground := Go.Ground.phase }, { on := 2, ground := Go.Ground.phase }, { on := 3, ground := Go.Ground.phase }, { on := 4, ground := Go.Ground.phase }, { on := 5, ground := Go.Ground.phase }, { on := 6, ground := Go.Ground.phase }, { on := 7, ground := Go.Ground.phase }, { on := 8, ground := Go.Ground.phase }, { on := 9, ground := Go.Ground.phase }, { on := 10, ground := Go.Ground.phase }, { on := 11, ground := Go.Ground.textOnly Go.Departure.lateStores }, { on := 12, ground := Go.Ground.textOnly Go.Departure.lateStores }], guard := none } : Go.Oper)) (v := ?v11) rfl (by kernel_rfl) (by kernel_rfl) (by kernel_rfl) (fun _ _ _ h => h) (Or.inl ⟨by rfl, ?hy11⟩) (by assumption) ?rest11
  case hy11 => (intro w hSw; (try dsimp only at hSw); go_simp; (try with_reducible rfl))
  (try simp only [Act.put, List.getElem_toArray, List.getElem_cons_zero, List.getElem_cons_succ, List.setIfInBounds_toArray, List.set_cons_zero, List.set_cons_succ])
  refine wpAnyH_take (i := 14) (oi := ({ dst := some 14, op := Go.Op.assign (Go.Operand.tmp 60), type := 3, pos := "law.go:31", after := #[{ on := 11, ground := Go.Ground.data }, { on := 13, ground := Go.Ground.chain }, { on := 0, ground := Go.Ground.phase }, { on := 1, ground := Go.Ground.phase }, { on := 2, ground := Go.Ground.phase }, { on := 3, ground := Go.Ground.phase }, { on := 4, ground := Go.Ground.phase }, { on := 5, ground := Go.Ground.phase }, { on := 6, ground := Go.Ground.phase }, { on := 7, ground := Go.Ground.phase }, { on := 8, ground := Go.Ground.phase }, { on := 9, ground := Go.Ground.phase }, { on := 10, ground := Go.Ground.phase }, { on := 11, ground := Go.Ground.phase }, { on := 12, ground := Go.Ground.textOnly Go.Departure.lateStores }, { on := 13, ground := Go.Ground.phase }], guard := none } : Go.Oper)) (v := ?v12) rfl (by kernel_rfl) (by kernel_rfl) (by kernel_rfl) (fun _ _ _ h => h) (Or.inl ⟨by rfl, ?hy12⟩) (by assumption) ?rest12
  case hy12 => (intro w hSw; (try dsimp only at hSw); go_simp; (try with_reducible rfl))
  (try simp only [Act.put, List.getElem_toArray, List.getElem_cons_zero, List.getElem_cons_succ, List.setIfInBounds_toArray, List.set_cons_zero, List.set_cons_succ])
  refine wpAnyH_take (i := 15) (oi := ({ dst := some 15, op := Go.Op.assign (Go.Operand.tmp 61), type := 4, pos := "law.go:31", after := #[{ on := 12, ground := Go.Ground.data }, { on := 14, ground := Go.Ground.chain }, { on := 0, ground := Go.Ground.phase }, { on := 1, ground := Go.Ground.phase }, { on := 2, ground := Go.Ground.phase }, { on := 3, ground := Go.Ground.phase }, { on := 4, ground := Go.Ground.phase }, { on := 5, ground := Go.Ground.phase }, { on := 6, ground := Go.Ground.phase }, { on := 7, ground := Go.Ground.phase }, { on := 8, ground := Go.Ground.phase }, { on := 9, ground := Go.Ground.phase }, { on := 10, ground := Go.Ground.phase }, { on := 11, ground := Go.Ground.phase }, { on := 12, ground := Go.Ground.phase }, { on := 13, ground := Go.Ground.phase }, { on := 14, ground := Go.Ground.phase }], guard := none } : Go.Oper)) (v := ?v13) rfl (by kernel_rfl) (by kernel_rfl) (by kernel_rfl) (fun _ _ _ h => h) (Or.inl ⟨by rfl, ?hy13⟩) (by assumption) ?rest13
  case hy13 => (intro w hSw; (try dsimp only at hSw); go_simp; (try with_reducible rfl))
  (try simp only [Act.put, List.getElem_toArray, List.getElem_cons_zero, List.getElem_cons_succ, List.setIfInBounds_toArray, List.set_cons_zero, List.set_cons_succ])
  refine wpAnyH_done (by kernel_rfl) ?_ _
  have X15 := Lib.hid (show Ext w12 w15 from Ext.trans X14 hw15)
  have R15 := Lib.hid r15
  have XW := Lib.hid (X6.out.trans ((X9.out.trans X12.out).trans X15.out))
  have R9' := Lib.hid (R9.out.ext (X12.out.trans X15.out))
  have R12' := Lib.hid (R12.out.ext X15.out)
  have RA' := Lib.hid (RA12.out.ext X15.out)
  have RB' := Lib.hid (RB.out.ext ((X9.out.trans X12.out).trans X15.out))
  clear o15 r15 hw15 X13 X14 o13 g13 o14 g14 r14 R9 R12 RA RB RA12 RT12 X9 X12 X15 X6
  go_wp2_with (first | (go_at_call 16; refine (num_any _ _).mono ?_; rintro e wn ⟨rfl, rfl⟩))
  refine (lbatch1_any 1 [97] _ (by decide) (by decide)).mono ?_
  rintro e w16 ⟨u16, rfl, hu16, hw16⟩
  obtain ⟨A16, n16, c16, rfl, hl16, hc16⟩ := id hu16
  go_wp2_with fail
  refine (lbatch0_any 2 _).mono ?_
  rintro e w17 ⟨rfl, hw17⟩
  go_wp2_with fail
  have x18 : Ext w17 (w17.alloc (.cells #[.int .i64 (bt 1 [97]).idx, .slice A16 n16 c16, .int .i64 2, .slice none 0 0] 24)) := (by with_reducible (repeat (first | exact Ext.rfl_ _ | assumption | refine Ext.drew ?_ | refine Ext.drewN ?_ _ | refine Ext.alloc ?_ _ | refine Ext.trans ?_ (by assumption))))
  refine (rsame13_any A9 2 c9 _ 2 2 [bt 1 [97], bt 2 []] [bt 1 [97], bt 2 []] _ (R9'.out.ext ((hw16.trans hw17).trans x18)) (RdLB.two (x := bt 1 [97]) (y := bt 2 []) (heap_alloc_new w17 _) (hl16.ext (hw17.trans x18)) hc16 (RdL.nil _ _) (Nat.le_refl _))).mono ?_
  rintro e w18 ⟨rfl, hw18⟩
  rw [decide_eq_true rfl]
  have X18 := Lib.hid (((hw16.trans hw17).trans x18).trans hw18)
  clear hu16 hl16 hw16 hw17 x18 hw18 R9'
  go_wp2_with fail
  refine (lbatch0_any 2 _).mono ?_
  rintro e w19 ⟨rfl, hw19⟩
  go_wp2_with fail
  have x20 : Ext w19 (w19.alloc (.cells #[.int .i64 2, .slice none 0 0] 24)) := (by with_reducible (repeat (first | exact Ext.rfl_ _ | assumption | refine Ext.drew ?_ | refine Ext.drewN ?_ _ | refine Ext.alloc ?_ _ | refine Ext.trans ?_ (by assumption))))
  refine (rsame13_any A12 1 c12 _ 1 1 [bt 2 []] [bt 2 []] _ (R12'.out.ext ((X18.out.trans hw19).trans x20)) (RdLB.one (x := bt 2 []) (heap_alloc_new w19 _) (RdL.nil _ _) (Nat.le_refl _))).mono ?_
  rintro e w20 ⟨rfl, hw20⟩
  rw [decide_eq_true rfl]
  have X20 := Lib.hid (((X18.out.trans hw19).trans x20).trans hw20)
  clear hw19 x20 hw20 R12' X18
  go_wp2_with fail
  refine (lbatch1_any 1 [97] _ (by decide) (by decide)).mono ?_
  rintro e w21 ⟨u21, rfl, hu21, hw21⟩
  obtain ⟨A21, n21, c21, rfl, hl21, hc21⟩ := id hu21
  go_wp2_with fail
  have x22 : Ext w21 (w21.alloc (.cells #[.int .i64 (bt 1 [97]).idx, .slice A21 n21 c21] 24)) := (by with_reducible (repeat (first | exact Ext.rfl_ _ | assumption | refine Ext.drew ?_ | refine Ext.drewN ?_ _ | refine Ext.alloc ?_ _ | refine Ext.trans ?_ (by assumption))))
  refine (rsame13_any A15 1 c15 _ 1 1 [bt 1 [97]] [bt 1 [97]] _ (R15.out.ext ((X20.out.trans hw21).trans x22)) (RdLB.one (x := bt 1 [97]) (heap_alloc_new w21 _) (hl21.ext x22) hc21)).mono ?_
  rintro e w22 ⟨rfl, hw22⟩
  rw [decide_eq_true rfl]
  have X22 := Lib.hid (((X20.out.trans hw21).trans x22).trans hw22)
  have RA22 := Lib.hid (RA'.out.ext X22.out)
  have RB22 := Lib.hid (RB'.out.ext X22.out)
  clear hu21 hl21 hw21 x22 hw22 R15 X20
  go_wp2_with (first | (at_builtin; refine wp_appG rfl _ _ rfl w22.heap.size (.slice none 0 0) [] rfl (OwnB.nil _ _) (some ⟨ba, oa, none⟩) 16 ca kA rfl RA22.out (by rw [kzA]; decide) (Nat.le_refl _) ?_; intro v23 w23 o23 g23; have X23 := Lib.hid (show Ext w22 w23 from Ext.growBy (Ext.rfl_ w22) g23 (OwnB.nil _ _) (Nat.le_refl _)); have O23 := Lib.hid o23; clear o23 g23) | (at_builtin; refine wp_appG rfl _ _ rfl w22.heap.size v23 ([] ++ kA) rfl O23.out Ab 11 cb kB rfl (RB22.out.ext X23.out) (by rw [List.nil_append, kzA, kzB]; decide) X23.out.size ?_; intro v24 w24 o24 g24; have X24 := Lib.hid (show Ext w22 w24 from Ext.growBy X23.out g24 O23.out (Nat.le_refl _)); obtain ⟨A24, n24, c24, rfl, l24, r24, _⟩ := o24.formN; obtain rfl : n24 = 27 := (by rw [← r24.1, List.nil_append, List.length_append, kzA, kzB]); have R24 := Lib.hid r24; clear o24 g24 r24))
  refine (lbatch0_any 2 _).mono ?_
  rintro e w25 ⟨rfl, hw25⟩
  go_wp2_with fail
  have x26 : Ext w25 (w25.alloc (.cells #[.int .i64 2, .slice none 0 0] 24)) := (by with_reducible (repeat (first | exact Ext.rfl_ _ | assumption | refine Ext.drew ?_ | refine Ext.drewN ?_ _ | refine Ext.alloc ?_ _ | refine Ext.trans ?_ (by assumption))))
  refine (once_any A24 27 c24 (kA ++ kB) 1 _ 1 1 0 _ (R24.out.ext (hw25.trans x26)) l24 (by decide) (by rw [kaf]; exact RdLB.one (x := bt 2 []) (heap_alloc_new w25 _) (RdL.nil _ _) (Nat.le_refl _)) (Nat.le_refl _)).mono ?_
  rintro e w26 ⟨rfl, hw26⟩
  go_wp2
  go_ret
  exact ⟨rfl, XW.out.trans (X22.out.trans (X24.out.trans ((hw25.trans x26).trans hw26)))⟩

end Go.Proofs.Ythdahmicjlplcaa
