/- The walk of BlockBounds: as many entries as may be, and one more; restarts that are wrong. Conditions: none. -/
import Derived.Test.YthfhococglbpoaaBlkU
import Derived.Deep.Cut
import Derived.Deep.CutRange
namespace Go.Proofs.Ythfhococglbpoaa
set_option linter.unusedSimpArgs false
set_option linter.unusedVariables false
open Go.RowKit

def kE (i : Nat) : Ent := ⟨[107], 2000 - (i : Int), 2, []⟩
def kF : Nat → Nat → List Ent
  | _, 0 => []
  | i, m + 1 => kE i :: kF (i + 1) m
theorem kF_len (i m : Nat) : (kF i m).length = m := by
  induction m generalizing i with
  | zero => rfl
  | succ m ih => simp [kF, ih]
theorem kF_snoc (i m : Nat) : kF i (m + 1) = kF i m ++ [kE (i + m)] := by
  induction m generalizing i with
  | zero => rfl
  | succ m ih => rw [kF, ih, kF, List.cons_append, Nat.add_assoc, Nat.add_comm 1 m]
theorem kE_may {i : Nat} (h : i < 2000) : mayE (kE i) = true := by
  rw [mayE_iff]
  refine ⟨by simp [kE], by simp [kE], ?_, ?_, by simp [kE], .inr ⟨rfl, rfl⟩⟩
  · simp only [kE]; omega
  · simp only [kE]; omega
theorem kE_up (i : Nat) : cmpE (kE i) (kE (i + 1)) < 0 := by
  unfold cmpE orI cmpI
  rw [if_pos (show cmpK (kE i).key (kE (i + 1)).key = 0 from (cmpK_eq_zero _ _).2 rfl)]
  rw [if_pos (show (kE (i + 1)).seq < (kE i).seq from (show (2000 - ((i + 1 : Nat) : Int)) < 2000 - (i : Int) by omega))]
  decide
theorem kF_ris (i m : Nat) (h : i + m < 2000) : ris (some (kE i)) (kF (i + 1) m) = kF (i + 1) m := by
  induction m generalizing i with
  | zero => rfl
  | succ m ih =>
    rw [kF, ris, if_pos, ih _ (by omega)]
    unfold behO
    simp only [kE_may (show i + 1 < 2000 by omega), Bool.true_and]
    exact decide_eq_true (kE_up i)
theorem kL_may : mayL (kF 0 1024) = true := by
  unfold mayL riseB
  rw [kF_len]
  have : ris none (kF 0 1024) = kF 0 1024 := by
    have := kF_ris 0 1023 (by omega)
    rw [show kF 0 1024 = kE 0 :: kF 1 1023 from rfl, ris, if_pos (by unfold behO; simp [kE_may (show 0 < 2000 by omega)]), this]
  rw [this, kF_len]
  rfl
theorem kL_no : mayL (kF 0 1025) = false := by
  unfold mayL
  rw [kF_len]
  rfl
theorem kL_take : (kF 0 1025).take 1024 = kF 0 1024 := by
  rw [kF_snoc 0 1024]
  exact List.take_left' (kF_len _ _)
theorem blkB_small' {xs : List Ent} (h : mayL xs = true) : (blkB xs).length ≤ B40 := by
  have h1 := (show IsBlk (blkB xs) xs from ⟨h, rfl⟩).may
  have h2 := (show IsBlk (blkB xs) xs from ⟨h, rfl⟩).len
  have h3 := bodF_len 0 [] xs h1
  have h4 := posB_len xs
  rw [blkB_len]
  unfold bodB B40
  omega
theorem posI_first {xs : List Ent} (h : 0 < xs.length) : ∃ t, posI xs = 0 :: t := by
  cases xs with
  | nil => exact absurd h (by simp)
  | cons e xs => exact ⟨_, by simp [posI, posB, posF]; rfl⟩

def kc : Bs := [0, 2, 97, 98, 5, 2, 1, 1, 99, 3, 2, 0, 0, 0, 6, 0, 0, 0, 1]
def kz : Bs := [0, 0, 0, 0, 0, 0, 0, 6, 0, 0, 0, 2]
def kd : Bs := kB.take 11 ++ kz
def kj : Bs := [0, 2, 97, 98, 5, 2, 0, 2, 97, 99, 3, 2, 0, 0, 0, 0, 0, 0, 0, 1]
/-- Bytes whose entries are those two are their one block, or none. -/
theorem nblk {b r0 r1 : Bs} (n : Nat) (hn : un4 (b.drop (b.length - 4)) = n) (hr : b.take (b.length - 4 - 4 * n) = r0) (h1 : pEnt [] r0 = some (d5, r1)) (h2 : pEnt [97, 98] r1 = some (d3, [])) (hne : b ≠ kB) : ∀ l, ¬ IsBlk b l := by
  intro l hl
  have h0 : ∀ l, IsBlk b l → r0 = bodB l := fun l hl => by
    have p := hl.parts
    rw [← p.2.2.2.2.2, ← p.2.1, hn, hr]
  have s1 := (BodAt.start h0).next (e := d5) (r' := r1) h1
  have s2 := s1.next (e := d3) (r' := []) h2
  have e := s2.end_ l hl
  subst e
  exact hne (hl.2.symm.trans k82)
theorem kc_no : ∀ l, ¬ IsBlk kc l := nblk (r0 := [0, 2, 97, 98, 5, 2, 1, 1, 99, 3, 2]) (r1 := [1, 1, 99, 3, 2]) 1 (by decide) (by decide) (by decide) (by decide) (by decide)
theorem kd_no : ∀ l, ¬ IsBlk kd l := nblk (r0 := [0, 2, 97, 98, 5, 2, 1, 1, 99, 3, 2]) (r1 := [1, 1, 99, 3, 2]) 2 (by decide) (by decide) (by decide) (by decide) (by decide)
theorem kj_no : ∀ l, ¬ IsBlk kj l := nblk (r0 := [0, 2, 97, 98, 5, 2, 0, 2, 97, 99, 3, 2]) (r1 := [0, 2, 97, 99, 3, 2]) 1 (by decide) (by decide) (by decide) (by decide) (by decide)

theorem rdBytes (w : World) (x : Bs) : Rd (w.alloc (.cells (byV x).toArray 5)) (some ⟨w.heap.size, 0, none⟩) x.length x := by
  have h := blk1 w (.cells (byV x).toArray 5)
  refine ⟨rfl, fun _ => ⟨_, 0, rfl, fun j hj => ?_⟩⟩
  unfold World.cell?
  simp only [h]
  simp [byV, hj]
theorem litBytes (w : World) (x : Bs) : Rd (litWorld w 5 (byV x).toArray) (some ⟨w.heap.size, 0, none⟩) x.length x := by
  have h := litWorld_at_new w 5 (byV x).toArray
  refine ⟨rfl, fun _ => ⟨_, 0, rfl, fun j hj => ?_⟩⟩
  unfold World.cell?
  simp only [h]
  simp [byV, hj]
theorem OwnI.nth {w : World} {base n c k : Nat} {A : Option Addr} {ps : List Int} (h : OwnI w base (.slice A n c) ps) (hk : k < ps.length) : ∃ g, A = some ⟨g, 0, none⟩ ∧ n = ps.length ∧ n ≤ c ∧ w.cell? ⟨g, k, none⟩ = some (.int .i64 ps[k]) := by
  rcases h.2 with ⟨_, h0⟩ | ⟨g, cap, cur, hv, hb, hg, hle, _⟩
  · omega
  · cases hv
    refine ⟨g, rfl, rfl, hle, ?_⟩
    have := World.ownsRow.cellAt h k (by omega)
    rw [this]
    simp [hk]
theorem own_some {w : World} {base : Nat} {v : Value} {x : Bs} (h : OwnB w base v x) (hx : 0 < x.length) : ∃ g c, v = .slice (some ⟨g, 0, none⟩) x.length c ∧ x.length ≤ c := by
  rcases h.2 with ⟨_, h0⟩ | ⟨g, cap, cur, hv, hb, hg, hle, _⟩
  · omega
  · exact ⟨g, cap, hv, hle⟩
theorem elt_del {w : World} {base : Nat} {A : Option Addr} {n c : Nat} {k : Bs} {s : Int} (h : RdE w (.agg #[.slice A n c, .int .i64 s, .int .i64 2, .slice none 0 0]) ⟨k, s, 2, []⟩) (ht : ∃ g, A = some ⟨g, 0, none⟩ ∧ TyB w g) : Elt w base ⟨A, n, c, none, 0, 0⟩ ⟨k, s, 2, []⟩ := by
  obtain ⟨g, rfl, cs, fr, hg⟩ := ht
  refine ⟨h, fun _ a e => ?_, fun h0 => absurd h0 (by simp)⟩
  cases e
  exact .inr ⟨cs, fr, hg⟩

set_option maxRecDepth 100000 in
set_option maxHeartbeats 1000000 in
theorem ldel_own (k : Bs) (s : Int) (w : World) (hk : k.length ≤ B40) :
    Calls Try.prog 30 #[.string ⟨k.toArray⟩, .int .i64 s] w fun e w' => ∃ A n c, e = .returned (.agg #[.slice A n c, .int .i64 s, .int .i64 2, .slice none 0 0]) ∧ (RdE w' (.agg #[.slice A n c, .int .i64 s, .int .i64 2, .slice none 0 0]) ⟨k, s, 2, []⟩ ∧ (∃ g, A = some ⟨g, 0, none⟩ ∧ TyB w' g)) ∧ Ext w w' := by
  have hc := fun (w : World) (s : ByteArray) => Lib.run_convert_string_bytes (P := Try.prog) w 9 22 5 s Try.underlying9 Try.underlying22 Try.underlying5
  have x1 : Ext (w.alloc (.cells #[.slice none 0 0, .int .i64 0, .int .i64 0, .slice none 0 0] 28)) (Lib.bytesWorld (w.alloc (.cells #[.slice none 0 0, .int .i64 0, .int .i64 0, .slice none 0 0] 28)) 5 ⟨k.toArray⟩) := bytesWorld_ext _ _ _
  obtain ⟨q0, q1, q2, q3, f0, f1, f2, f3⟩ := box4 (blk1 w (.cells #[.slice none 0 0, .int .i64 0, .int .i64 0, .slice none 0 0] 28)) x1
  have r1 := (bytesWorld_rd (w.alloc (.cells #[.slice none 0 0, .int .i64 0, .int .i64 0, .slice none 0 0] 28)) 5 k)
  have t1 : TyB (Lib.bytesWorld (w.alloc (.cells #[.slice none 0 0, .int .i64 0, .int .i64 0, .slice none 0 0] 28)) 5 ⟨k.toArray⟩) (w.heap.size + 1) := ⟨_, _, by have := Lib.bytesWorld_at_new (w.alloc (.cells #[.slice none 0 0, .int .i64 0, .int .i64 0, .slice none 0 0] 28)) 5 ⟨k.toArray⟩; rwa [World.size_alloc] at this⟩
  have g1 : k.length ≤ grownCap (w.alloc (.cells #[.slice none 0 0, .int .i64 0, .int .i64 0, .slice none 0 0] 28)) k.length 0 5 := grownCap_ge _ _ _ _
  rw [World.size_alloc] at r1
  obtain ⟨ck, hck⟩ : ∃ z, z = grownCap (w.alloc (.cells #[.slice none 0 0, .int .i64 0, .int .i64 0, .slice none 0 0] 28)) k.length 0 5 := ⟨_, rfl⟩
  rw [← hck] at g1
  have X1 := Lib.hid x1
  have R1 := Lib.hid r1
  have T1 := Lib.hid t1
  have G1 := Lib.hid g1
  have HK := Lib.hid hk
  clear x1 r1 g1 hk t1
  go_enter Try.func30, Try.ntmps30
  go_wp2
  rw [← hck]
  obtain ⟨W2, hW2⟩ : ∃ W2, W2 = Lib.bytesWorld (w.alloc (.cells #[.slice none 0 0, .int .i64 0, .int .i64 0, .slice none 0 0] 28)) 5 ⟨k.toArray⟩ := ⟨_, rfl⟩
  rw [← hW2] at X1 R1 T1 q0 q1 q2 q3 f0 f1 f2 f3 ⊢
  refine bodyPost_ret (v := .agg #[.slice (some ⟨w.heap.size + 1, 0, none⟩) k.length ck, .int .i64 s, .int .i64 2, .slice none 0 0]) (by simp [results, Try.f30, go_sem, q0, q1, q2, q3]) rfl ?_
  have hw2 := X1.out
  have hi1 : Hi (w.heap.size + 1) (some ⟨w.heap.size + 1, 0, none⟩) k.length := fun _ a e => by cases e; exact Nat.le_refl _
  refine ⟨_, _, _, rfl, ⟨⟨_, k.length, ck, none, 0, 0, rfl, ?_, Rd.nil _ _, G1.out, Nat.le_trans HK.out (by decide), Nat.le_refl _, by decide⟩, _, rfl, ?_⟩, ?_⟩
  · exact (by with_reducible (repeat (first | exact R1.out | refine Rd.setCell ?_ hi1 (by simp) _ | refine Rd.ext ?_ (by assumption))))
  · with_reducible (repeat (first | exact T1.out | refine TyB.setCell ?_ _ _))
  · exact (by with_reducible (repeat (first | exact Ext.rfl_ _ | assumption | refine Ext.drew ?_ | refine Ext.drewN ?_ _ | refine Ext.alloc ?_ _ | refine Ext.setCell ?_ (by first | (simp; done) | (simp; omega)) _ | refine Ext.trans ?_ (by assumption))))

set_option maxRecDepth 100000 in
set_option maxHeartbeats 8000000 in
theorem bounds_walk (w : World) : Calls Try.prog 9 #[] w fun e w' => e = .returned (.bool true) ∧ Ext w w' := by
  have hconv := fun (w : World) (cs : Array Value) (n c : Nat) => run_convert_lit (P := Try.prog) w 22 5 cs n c Try.underlying22 Try.underlying5
  have HCONV := Lib.hid hconv
  clear hconv
  go_enter Try.func9, Try.ntmps9
  go_wp2
  go_loopw [1, 2] (fun v i wr => ∃ k : Nat, i = .int .i64 k ∧ k ≤ 1025 ∧ Hid (Ext w wr) ∧ Hid (OwnL wr w.heap.size v (kF 0 k))) (fun _ i _ => 1025 - (intOf i).toNat)
  case atStart => exact ⟨0, rfl, Nat.zero_le _, Lib.hid (Ext.rfl_ _), Lib.hid (OwnL.nil _ _)⟩
  case round =>
    obtain ⟨k, rfl, hk, HX, HF⟩ := hrel
    by_cases hlt : k < 1025
    · have hltI : (k : Int) < 1025 := by omega
      have HLT := Lib.hid hlt
      have hwr : IntKind.i64.wrap (2000 - (k : Int)) = 2000 - (k : Int) := by rw [IntKind.wrap_i64]; omega
      go_wp2_with fail
      refine (ldel_own [107] (2000 - (k : Int)) _ (by decide)).mono ?_
      rintro e w1 ⟨A1, n1, c1, rfl, ⟨hE, hT⟩, hw1⟩
      have HEL := Lib.hid (elt_del (base := w.heap.size) hE hT)
      have X1 := Lib.hid (HX.out.trans hw1)
      have HF1 := Lib.hid (OwnL.ext HF.out hw1)
      clear hE hT hw1
      go_wp2_with (at_builtin; refine wp_appL rfl _ _ rfl w.heap.size _ (kF 0 k) rfl (OwnL.ext HF1.out (Ext.alloc (Ext.rfl_ _) _)) (some ⟨_, 0, none⟩) 1 1 [kE k] rfl (RdLa.one (h := ⟨A1, n1, c1, none, 0, 0⟩) (x := kE k) _ HEL.out) (by have := HLT.out; rw [kF_len]; unfold B41; simp only [List.length_cons, List.length_nil]; omega) (Ext.size (X1.out.trans (Ext.alloc (Ext.rfl_ _) _))) ?_; intro v5 w5 o5 g5 _; have X5 := Lib.hid (Ext.growL (X1.out.trans (Ext.alloc (Ext.rfl_ _) _)) g5 (OwnL.ext HF1.out (Ext.alloc (Ext.rfl_ _) _)) (Nat.le_refl _)); have O5 := Lib.hid o5; clear g5 o5)
      go_roundw
      case rel =>
        refine ⟨k + 1, by go_num, (by have := HLT.out; omega), X5, Lib.hid ?_⟩
        rw [kF_snoc, Nat.zero_add]; exact O5.out
      case measure => have := HLT.out; simp [intOf]; omega
    · obtain rfl : k = 1025 := by omega
      obtain ⟨A, n, c, rfl, hc, hr, _⟩ := HF.out.formN (by rw [kF_len]; decide)
      obtain rfl : n = 1025 := by have := hr.1; rw [kF_len] at this; exact this.symm
      have hc4 : 1024 ≤ c := by omega
      have hc4i : (1024 : Int) ≤ (c : Int) := by omega
      have hr4 := hr.take 1024 (by omega)
      rw [kL_take] at hr4
      have HR := Lib.hid hr
      have HR4 := Lib.hid hr4
      clear HF hr hr4
      go_wp2_with fail
      refine (write_any A 1024 c (kF 0 1024) _ HR4.out hc4).mono ?_
      rintro e w1 ⟨v1, rfl, o1, hw1⟩
      rw [if_pos kL_may] at o1
      rw [if_pos kL_may]
      obtain ⟨A1, n1, c1, rfl, hc1, r1, _⟩ := o1.formN
      have R1 := Lib.hid r1
      have X1 := Lib.hid hw1
      clear o1 r1 hw1
      go_wp2_with fail
      refine (write_any A 1025 c (kF 0 1025) _ (HR.out.ext X1.out) hc).mono ?_
      rintro e w2 ⟨v2, rfl, o2, hw2⟩
      rw [if_neg (by rw [kL_no]; simp)]
      obtain ⟨A2, n2, c2, rfl, _⟩ := o2.formN
      have R2 := Lib.hid (R1.out.ext hw2)
      have X2 := Lib.hid ((HX.out.trans X1.out).trans hw2)
      have hn1 : n1 ≤ B40 := by have := R1.out.1; rw [← this]; exact blkB_small' kL_may
      clear o2 hw2 R1 X1 HR HR4
      go_wp2_with fail
      refine (brest_any A1 n1 c1 _ _ R2.out hc1 hn1).mono ?_
      rintro e w3 ⟨v3, rfl, o3, hw3⟩
      have hop := op_yes (show IsBlk (blkB (kF 0 1024)) (kF 0 1024) from ⟨kL_may, rfl⟩)
      rw [hop.2]
      rw [hop.1] at o3
      obtain ⟨tl, htl⟩ := posI_first (xs := kF 0 1024) (by rw [kF_len]; decide)
      have hlen : (posI (kF 0 1024)).length = 256 := by unfold posI; rw [List.length_map, posB_len, kF_len]
      obtain ⟨A3, c3, rfl, hc3⟩ := own_form o3
      obtain ⟨g3, rfl, _, _, q3⟩ := o3.nth (k := 0) (by rw [hlen]; decide)
      have q3' : w3.cell? ⟨g3, 0, none⟩ = some (.int .i64 0) := by rw [q3]; simp [htl]
      rw [hlen] at hc3 ⊢
      have Q3 := Lib.hid q3'
      have X3 := Lib.hid (X2.out.trans hw3)
      clear hop o3 htl hlen q3 q3' hw3 R2 X2
      go_wp2_with fail
      refine (ldel_any [97, 98] 5 _ (by decide)).mono ?_
      rintro e w4 ⟨u4, rfl, hu4, hw4⟩
      obtain ⟨A4, n4, c4, B4, m4, e4, rfl, _⟩ := id hu4
      go_wp2_with fail
      refine (ldel_any [97, 99] 3 _ (by decide)).mono ?_
      rintro e w5 ⟨u5, rfl, hu5, hw5⟩
      obtain ⟨A5, n5, c5, B5, m5, e5, rfl, _⟩ := id hu5
      go_wp2_with fail
      refine (write_any _ 2 2 [d5, d3] _ (rdl_row (w := w5) 28 (hs := [⟨A4, n4, c4, B4, m4, e4⟩, ⟨A5, n5, c5, B5, m5, e5⟩]) (xs := [d5, d3]) rfl (by decide) ?_) (Nat.le_refl _)).mono ?_
      · intro k i1 i2
        match k, i2 with
        | 0, _ => exact hu4.ext hw5
        | 1, _ => exact hu5
      rintro e w6 ⟨v6, rfl, o6, hw6⟩
      rw [if_pos k81, k82] at o6
      rw [if_pos k81]
      obtain ⟨g6, c6, hv6, l6'⟩ := own_some o6 (by decide)
      have hv6' : v6 = .slice (some ⟨g6, 0, none⟩) 19 c6 := hv6
      have l6 : 19 ≤ c6 := l6'
      clear hv6 l6'
      subst hv6'
      have r6 : Rd w6 (some ⟨g6, 0, none⟩) 19 kB := Rd.of_OwnB o6 rfl
      have X36 := Lib.hid (show Ext w3 w6 from (hw4.trans hw5).trans (by with_reducible (repeat (first | exact Ext.rfl_ _ | assumption | refine Ext.drew ?_ | refine Ext.drewN ?_ _ | refine Ext.alloc ?_ _ | refine Ext.trans ?_ (by assumption)))))
      have R6 := Lib.hid r6
      have Q6 := Lib.hid (X36.out.keeps _ _ _ Q3.out)
      have X6 := Lib.hid (X3.out.trans X36.out)
      have hl6 : 11 ≤ c6 := by omega
      have hl6i : (11 : Int) ≤ (c6 : Int) := by omega
      clear o6 r6 hw6 hu4 hu5 hw4 hw5 X36 X3 Q3
      go_wp2_with (first | (at_builtin; refine wp_app rfl _ _ rfl w6.heap.size _ [] rfl (OwnB.nil _ _) (some ⟨g6, 0, none⟩) 19 c6 kB rfl R6.out (by decide) (Nat.le_refl _) ?_; intro v7 w7 o7 g7; rw [List.nil_append] at o7; have X67 := Lib.hid ((Ext.rfl_ w6).growBy g7 (OwnB.nil w6 w6.heap.size) (Nat.le_refl _)); obtain ⟨b7, c7, hv7, hc7⟩ := own_some o7 (by decide); have hv7' : v7 = .slice (some ⟨b7, 0, none⟩) 19 c7 := hv7; clear hv7; subst hv7'; obtain ⟨q1, q2, q3⟩ := o7.cellB 14 (by decide); have O8 := Lib.hid (show OwnB (w7.setCell ⟨b7, 14, none⟩ (.int .u8 6)) w6.heap.size (.slice (some ⟨b7, 0, none⟩) 19 c7) kc from o7.setB 14 6 _ rfl); have X8 := Lib.hid (show Ext w6 (w7.setCell ⟨b7, 14, none⟩ (.int .u8 6)) from X67.out.setCell q3 _); have hc7' : 19 ≤ c7 := hc7; clear o7 g7 q3 hc7) | (at_builtin; refine wp_app rfl _ _ rfl (World.setCell w7 ⟨b7, 14, none⟩ (.int .u8 6)).heap.size _ [] rfl (OwnB.nil _ _) (some ⟨g6, 0, none⟩) 11 c6 (kB.take 11) rfl ((R6.out.pre (k := 11) (by decide)).ext X8.out) (by decide) (Nat.le_refl _) ?_; intro v9 w9 o9 g9; rw [List.nil_append] at o9; have X9 := Lib.hid ((Ext.rfl_ (World.setCell w7 ⟨b7, 14, none⟩ (.int .u8 6))).growBy g9 (OwnB.nil _ _) (Nat.le_refl _)); have O9 := Lib.hid o9; clear o9 g9) | (at_builtin; refine wp_app rfl _ _ rfl (World.setCell w7 ⟨b7, 14, none⟩ (.int .u8 6)).heap.size _ (kB.take 11) rfl (O9.out.ext (Ext.alloc (Ext.rfl_ w9) _)) (some ⟨w9.heap.size, 0, none⟩) 12 12 kz rfl (rdBytes w9 kz) (by decide) (Ext.size (X9.out.trans (Ext.alloc (Ext.rfl_ w9) _))) ?_; intro va wa oa ga; have XA := Lib.hid ((X9.out.trans (Ext.alloc (Ext.rfl_ w9) _)).growBy ga (O9.out.ext (Ext.alloc (Ext.rfl_ w9) _)) (Nat.le_refl _)); obtain ⟨Aa, na, ca, hva, hca, ra, _⟩ := oa.formN; subst hva; have RA := Lib.hid ra; clear oa ga ra) | fail)
      have XW9 := Lib.hid (Ext.trans X8.out XA.out)
      have R8 := Lib.hid ((Rd.of_OwnB O8.out rfl : Rd _ (some ⟨b7, 0, none⟩) 19 kc).ext XA.out)
      have na23 : na = 23 := RA.out.1.symm
      subst na23
      have Q9 := Lib.hid ((X8.out.trans XA.out).keeps _ _ _ Q6.out)
      have X9' := Lib.hid (X6.out.trans (X8.out.trans XA.out))
      clear X67 O8 X8 X9 O9 XA Q6 X6 R6 XW9
      refine (bread_any (some ⟨b7, 0, none⟩) 19 c7 kc _ R8.out (by omega) (by decide)).mono ?_
      rintro e wb ⟨vb, rfl, ob, hwb⟩
      rw [(op_no kc_no).2]
      rw [(op_no kc_no).1] at ob
      obtain ⟨Ab, cb, rfl, _⟩ := ob.rdq (by decide)
      have XB := Lib.hid hwb
      clear ob hwb R8
      go_wp2_with fail
      refine (bread_any Aa 23 ca kd _ (RA.out.ext XB.out) hca (by decide)).mono ?_
      rintro e wc ⟨vc, rfl, oc, hwc⟩
      rw [(op_no kd_no).2]
      rw [(op_no kd_no).1] at oc
      obtain ⟨Ac, cc, rfl, _⟩ := oc.rdq (by decide)
      have XC := Lib.hid (XB.out.trans hwc)
      clear oc hwc RA XB
      have hconv := HCONV.out
      go_wp2_with fail
      refine (bread_any (some ⟨wc.heap.size, 0, none⟩) 20 20 kj _ (litBytes wc kj) (Nat.le_refl _) (by decide)).mono ?_
      rintro e wd ⟨vd, rfl, od, hwd⟩
      rw [(op_no kj_no).2]
      rw [(op_no kj_no).1] at od
      obtain ⟨Ad, cd, rfl, _⟩ := od.rdq (by decide)
      have XD := Lib.hid (show Ext w wd from (X9'.out.trans XC.out).trans (by with_reducible (repeat (first | exact Ext.rfl_ _ | assumption | refine Ext.drew ?_ | refine Ext.drewN ?_ _ | refine Ext.alloc ?_ _ | refine Ext.trans ?_ (litWorld_ext _ _ _) | refine Ext.setCell ?_ (by first | (simp; done) | (simp; omega)) _ | refine Ext.trans ?_ (by assumption)))))
      have QD := Lib.hid (Ext.keeps (show Ext wc wd from (by with_reducible (repeat (first | exact Ext.rfl_ _ | assumption | refine Ext.drew ?_ | refine Ext.drewN ?_ _ | refine Ext.alloc ?_ _ | refine Ext.trans ?_ (litWorld_ext _ _ _) | refine Ext.setCell ?_ (by first | (simp; done) | (simp; omega)) _ | refine Ext.trans ?_ (by assumption))))) _ _ _ (XC.out.keeps _ _ _ Q9.out))
      clear od hwd hconv HCONV XC Q9 X9'
      have hw0 : IntKind.i64.wrap 0 = 0 := rfl
      have qd := QD.out
      go_wp2_with fail
      refine (num_any _ _).mono ?_
      rintro e wn ⟨rfl, rfl⟩
      go_wp2_with fail
      refine (num_any _ _).mono ?_
      rintro e wn ⟨rfl, rfl⟩
      go_wp2_with fail
      refine (num_any _ _).mono ?_
      rintro e wn ⟨rfl, rfl⟩
      go_wp2_with fail
      refine (num_any _ _).mono ?_
      rintro e wn ⟨rfl, rfl⟩
      go_wp2_with fail
      refine (num_any _ _).mono ?_
      rintro e wn ⟨rfl, rfl⟩
      go_wp2_with fail
      refine (num_any _ _).mono ?_
      rintro e wn ⟨rfl, rfl⟩
      go_wp2_with fail
      refine (known_any _).mono ?_
      rintro e wk ⟨rfl, hwk⟩
      go_wp2
      go_ret
      exact ⟨rfl, XD.out.trans hwk⟩
end Go.Proofs.Ythfhococglbpoaa
