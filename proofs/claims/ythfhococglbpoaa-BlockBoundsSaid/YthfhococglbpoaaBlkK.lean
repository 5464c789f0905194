/- The law's own rows of layer 8: they hold. Conditions: none. -/
import Derived.Test.YthfhococglbpoaaBlkI
import Derived.Test.YthfhococglbpoaaRdRow
import Derived.Test.YthfhococglbpoaaLit
namespace Go.Proofs.Ythfhococglbpoaa
set_option linter.unusedSimpArgs false
set_option linter.unusedVariables false
open Go.RowKit

def d5 : Ent := ⟨[97, 98], 5, 2, []⟩
def d3 : Ent := ⟨[97, 99], 3, 2, []⟩
def db : Ent := ⟨[98], 1, 2, []⟩
def da : Ent := ⟨[97], 1, 2, []⟩
def kB : Bs := [0, 2, 97, 98, 5, 2, 1, 1, 99, 3, 2, 0, 0, 0, 0, 0, 0, 0, 1]
theorem k81 : mayL [d5, d3] = true := by decide
theorem k82 : blkB [d5, d3] = kB := by decide
theorem k83 : mayL [] = false := by decide
theorem k84 : mayL [db, da] = false := by decide
theorem kIs : IsBlk kB [d5, d3] := ⟨k81, k82⟩
theorem k85 {b : Bs} (h : b.length < 8) : ∀ l, ¬ IsBlk b l := fun l hl => by have := hl.parts.1; omega
theorem k86 : opE kB = [d5, d3] ∧ opN kB = 0 := op_yes kIs
theorem k87 : bgE kB [97, 99] 9 = d3 ∧ bgN kB [97, 99] 9 = 0 := by
  unfold bgE bgN
  rw [k86.1, k86.2]
  decide
theorem k88 : bgN kB [97, 99] 2 = 6 := by
  unfold bgN
  rw [k86.1, k86.2]
  decide
theorem k89 : froL (opE kB) [97, 98, 0] = [d3] := by
  rw [k86.1]
  decide

set_option maxRecDepth 100000 in
set_option maxHeartbeats 1000000 in
theorem ldel_any (k : Bs) (s : Int) (w : World) (hk : k.length ≤ B40) :
    Calls Try.prog 30 #[.string ⟨k.toArray⟩, .int .i64 s] w fun e w' => ∃ u, e = .returned u ∧ RdE w' u ⟨k, s, 2, []⟩ ∧ Ext w w' := by
  have hc := fun (w : World) (s : ByteArray) => Lib.run_convert_string_bytes (P := Try.prog) w 9 22 5 s Try.underlying9 Try.underlying22 Try.underlying5
  have x1 : Ext (w.alloc (.cells #[.slice none 0 0, .int .i64 0, .int .i64 0, .slice none 0 0] 28)) (Lib.bytesWorld (w.alloc (.cells #[.slice none 0 0, .int .i64 0, .int .i64 0, .slice none 0 0] 28)) 5 ⟨k.toArray⟩) := bytesWorld_ext _ _ _
  obtain ⟨q0, q1, q2, q3, f0, f1, f2, f3⟩ := box4 (blk1 w (.cells #[.slice none 0 0, .int .i64 0, .int .i64 0, .slice none 0 0] 28)) x1
  have r1 := (bytesWorld_rd (w.alloc (.cells #[.slice none 0 0, .int .i64 0, .int .i64 0, .slice none 0 0] 28)) 5 k)
  have g1 : k.length ≤ grownCap (w.alloc (.cells #[.slice none 0 0, .int .i64 0, .int .i64 0, .slice none 0 0] 28)) k.length 0 5 := grownCap_ge _ _ _ _
  rw [World.size_alloc] at r1
  obtain ⟨ck, hck⟩ : ∃ z, z = grownCap (w.alloc (.cells #[.slice none 0 0, .int .i64 0, .int .i64 0, .slice none 0 0] 28)) k.length 0 5 := ⟨_, rfl⟩
  rw [← hck] at g1
  have X1 := Lib.hid x1
  have R1 := Lib.hid r1
  have G1 := Lib.hid g1
  have HK := Lib.hid hk
  clear x1 r1 g1 hk
  go_enter Try.func30, Try.ntmps30
  go_wp2
  rw [← hck]
  obtain ⟨W2, hW2⟩ : ∃ W2, W2 = Lib.bytesWorld (w.alloc (.cells #[.slice none 0 0, .int .i64 0, .int .i64 0, .slice none 0 0] 28)) 5 ⟨k.toArray⟩ := ⟨_, rfl⟩
  rw [← hW2] at X1 R1 q0 q1 q2 q3 f0 f1 f2 f3 ⊢
  refine bodyPost_ret (v := .agg #[.slice (some ⟨w.heap.size + 1, 0, none⟩) k.length ck, .int .i64 s, .int .i64 2, .slice none 0 0]) (by simp [results, Try.f30, go_sem, q0, q1, q2, q3]) rfl ?_
  have hw2 := X1.out
  have hi1 : Hi (w.heap.size + 1) (some ⟨w.heap.size + 1, 0, none⟩) k.length := fun _ a e => by cases e; exact Nat.le_refl _
  refine ⟨_, rfl, ⟨_, k.length, ck, none, 0, 0, rfl, ?_, Rd.nil _ _, G1.out, Nat.le_trans HK.out (by decide), Nat.le_refl _, by decide⟩, ?_⟩
  · exact (by with_reducible (repeat (first | exact R1.out | refine Rd.setCell ?_ hi1 (by simp) _ | refine Rd.ext ?_ (by assumption))))
  · exact (by with_reducible (repeat (first | exact Ext.rfl_ _ | assumption | refine Ext.drew ?_ | refine Ext.drewN ?_ _ | refine Ext.alloc ?_ _ | refine Ext.setCell ?_ (by first | (simp; done) | (simp; omega)) _ | refine Ext.trans ?_ (by assumption))))

theorem goesB_any (gb gk : Nat) (A : Option Addr) (n c : Nat) (b : Bs) (B : Option Addr) (m d : Nat) (k : Bs) (A' : Option Addr) (n' c' : Nat) (most : Int) (w0 w : World) (hb : Rd w0 A n b) (hnc : n ≤ c) (hn : n ≤ B40) (hk : Rd w0 B m k) (h0 : Ext w0 w)
    (hgb : w.cell? ⟨gb, 0, none⟩ = some (.slice A n c)) (hgk : w.cell? ⟨gk, 0, none⟩ = some (.slice B m d)) (hes : RdL w A' n' (froL (opE b) k)) :
    Calls Try.prog 19 #[.func (.func 41) #[] #[.pointer (some ⟨gb, 0, none⟩), .pointer (some ⟨gk, 0, none⟩)], .slice A' n' c', .int .i64 most] w fun e w' => e = .returned (.bool true) ∧ Ext w w' :=
  goes_any 41 _ (froL (opE b) k) A' n' c' most w (enters_of Try.func41 (by kernel_rfl) rfl)
    (fun S W hS hW => bfrom1_seq gb gk A n c b B m d k S w0 W hb hnc hn hk (h0.trans hW) (fun j hj => Nat.le_trans h0.size (hS j hj)) (hW.keeps _ _ _ hgb) (hW.keeps _ _ _ hgk)) hes
theorem lit3 (w : World) (t : TypeId) (a b c : UInt8) : Rd (litWorld w t #[.int .u8 a.toNat, .int .u8 b.toNat, .int .u8 c.toNat]) (some ⟨w.heap.size, 0, none⟩) 3 [a, b, c] := by
  have h := litWorld_at_new w t #[.int .u8 a.toNat, .int .u8 b.toNat, .int .u8 c.toNat]
  refine ⟨rfl, fun _ => ⟨_, 0, rfl, fun j hj => ?_⟩⟩
  match j, hj with
  | 0, _ => unfold World.cell?; simp only [h]; rfl
  | 1, _ => unfold World.cell?; simp only [h]; rfl
  | 2, _ => unfold World.cell?; simp only [h]; rfl
theorem from_cells (w : World) (A B : Option Addr) (n c m d : Nat) : ((w.alloc (.cells #[.slice A n c] 22)).alloc (.cells #[.slice B m d] 22)).cell? ⟨w.heap.size, 0, none⟩ = some (.slice A n c) ∧ ((w.alloc (.cells #[.slice A n c] 22)).alloc (.cells #[.slice B m d] 22)).cell? ⟨w.heap.size + 1, 0, none⟩ = some (.slice B m d) := by
  have h1 := (cnew w (.slice A n c) 22).1
  have h2 := (cnew (w.alloc (.cells #[.slice A n c] 22)) (.slice B m d) 22).1
  rw [World.size_alloc] at h2
  exact ⟨((Ext.rfl_ _).alloc _).keeps _ _ _ h1, h2⟩

theorem make4 (w : World) : (Instr.makeSlice 22 (.int .i64 4) (.int .i64 4)).run Try.prog w = .ok (.slice (some ⟨w.heap.size, 0, none⟩) 4 4) (w.alloc (.cells #[.int .u8 0, .int .u8 0, .int .u8 0, .int .u8 0] 5)) := by
  obtain ⟨i0, hi, hz0, hz1, hz2⟩ := info_parts Try.info5x
  have h := run_makeSlice (P := Try.prog) w 22 5 i0 _ Try.underlying22 hi hz0 .i64 .i64 4 4 (by decide) (by decide) (by rw [hz1]; decide) (by rw [hz2]; decide) (by decide)
  have e : madeCells (Value.int IntKind.u8 0).cells (Int.toNat 4 * i0.size) = #[.int .u8 0, .int .u8 0, .int .u8 0, .int .u8 0] := by
    rw [hz1]
    unfold madeCells
    rw [show Array.range (Int.toNat 4 * 1) = #[0, 1, 2, 3] from by decide]
    simp [Value.cells]
  rw [e] at h
  exact h
theorem rd0000 (w : World) : Rd (w.alloc (.cells #[.int .u8 0, .int .u8 0, .int .u8 0, .int .u8 0] 5)) (some ⟨w.heap.size, 0, none⟩) 4 [0, 0, 0, 0] := by
  have h := blk1 w (.cells #[.int .u8 0, .int .u8 0, .int .u8 0, .int .u8 0] 5)
  refine ⟨rfl, fun _ => ⟨_, 0, rfl, fun j hj => ?_⟩⟩
  match j, hj with
  | 0, _ => unfold World.cell?; simp only [h]; rfl
  | 1, _ => unfold World.cell?; simp only [h]; rfl
  | 2, _ => unfold World.cell?; simp only [h]; rfl
  | 3, _ => unfold World.cell?; simp only [h]; rfl

set_option maxRecDepth 100000 in
set_option maxHeartbeats 8000000 in
theorem known_any (w : World) : Calls Try.prog 10 #[] w fun e w' => e = .returned (.bool true) ∧ Ext w w' := by
  have hmk := make4
  have hconv := fun (w : World) (cs : Array Value) (n c : Nat) => run_convert_lit (P := Try.prog) w 22 5 cs n c Try.underlying22 Try.underlying5
  have hconv2 : ∀ (w : World) (o : Obj) (cs : Array Value) (n c : Nat), (convert 22 22 (.slice (some ⟨w.heap.size + 1, 0, none⟩) n c)).run Try.prog ((w.alloc o).alloc (.cells cs 5)) = .ok (.slice (some ⟨w.heap.size + 1, 0, none⟩) n c) (litWorld (w.alloc o) 5 cs) := fun w o cs n c => by
    have := hconv (w.alloc o) cs n c
    rwa [World.size_alloc] at this
  go_enter Try.func10, Try.ntmps10
  go_wp2_with fail
  refine (ldel_any [97, 98] 5 _ (by decide)).mono ?_
  rintro e w1 ⟨u1, rfl, hu1, hw1⟩
  obtain ⟨A1, n1, c1, B1, m1, e1, rfl, _⟩ := id hu1
  go_wp2_with fail
  refine (ldel_any [97, 99] 3 _ (by decide)).mono ?_
  rintro e w2 ⟨u2, rfl, hu2, hw2⟩
  obtain ⟨A2, n2, c2, B2, m2, e2, rfl, _⟩ := id hu2
  go_wp2_with fail
  refine (write_any _ 2 2 [d5, d3] _ (rdl_row (w := w2) 28 (hs := [⟨A1, n1, c1, B1, m1, e1⟩, ⟨A2, n2, c2, B2, m2, e2⟩]) (xs := [d5, d3]) rfl (by decide) ?_) (Nat.le_refl _)).mono ?_
  · intro k i1 i2
    match k, i2 with
    | 0, _ => exact hu1.ext hw2
    | 1, _ => exact hu2
  rintro e w3 ⟨v3, rfl, o3, hw3⟩
  rw [if_pos k81, k82] at o3
  rw [if_pos k81]
  obtain ⟨A3, n3, c3, rfl, l3, r3, i3⟩ := o3.formN
  have X3 := Lib.hid (show Ext w w3 from (hw1.trans hw2).trans (by with_reducible (repeat (first | exact Ext.rfl_ _ | assumption | refine Ext.drew ?_ | refine Ext.drewN ?_ _ | refine Ext.alloc ?_ _ | refine Ext.trans ?_ (by assumption)))))
  have R3b := Lib.hid r3
  have hn3 : n3 = 19 := r3.1.symm
  subst hn3
  clear o3 r3 i3 hw3 hu1 hu2 hw1 hw2
  go_wp2_with fail
  refine (write_any none 0 0 [] _ (RdL.nil _ _) (Nat.le_refl _)).mono ?_
  rintro e w4 ⟨v4, rfl, o4, hw4⟩
  rw [if_neg (by rw [k83]; simp)]
  have X34 := Lib.hid hw4
  obtain ⟨A4, n4, c4, rfl, _⟩ := o4.formN
  clear hw4 o4
  go_wp2_with fail
  refine (ldel_any [98] 1 _ (by decide)).mono ?_
  rintro e w5 ⟨u5, rfl, hu5, hw5⟩
  obtain ⟨A5, n5, c5, B5, m5, e5, rfl, _⟩ := id hu5
  go_wp2_with fail
  refine (ldel_any [97] 1 _ (by decide)).mono ?_
  rintro e w6 ⟨u6, rfl, hu6, hw6⟩
  obtain ⟨A6, n6, c6, B6, m6, e6, rfl, _⟩ := id hu6
  go_wp2_with fail
  refine (write_any _ 2 2 [db, da] _ (rdl_row (w := w6) 28 (hs := [⟨A5, n5, c5, B5, m5, e5⟩, ⟨A6, n6, c6, B6, m6, e6⟩]) (xs := [db, da]) rfl (by decide) ?_) (Nat.le_refl _)).mono ?_
  · intro k i1 i2
    match k, i2 with
    | 0, _ => exact hu5.ext hw6
    | 1, _ => exact hu6
  rintro e w7 ⟨v7, rfl, o7, hw7⟩
  rw [if_neg (by rw [k84]; simp)]
  obtain ⟨A7, n7, c7, rfl, _⟩ := o7.formN
  have X37 := Lib.hid (X34.out.trans ((hw5.trans hw6).trans (show Ext w6 w7 from (by with_reducible (repeat (first | exact Ext.rfl_ _ | assumption | refine Ext.drew ?_ | refine Ext.drewN ?_ _ | refine Ext.alloc ?_ _ | refine Ext.trans ?_ (by assumption)))))))
  clear hw5 hw6 hw7 o7 hu5 hu6 X34
  go_wp2_with fail
  refine (bread_any none 0 0 [] _ (Rd.nil _ _) (Nat.le_refl _) (Nat.zero_le _)).mono ?_
  rintro e w8 ⟨v8, rfl, o8, hw8⟩
  rw [(op_no (k85 (b := []) (by decide))).2]
  have X38 := Lib.hid (X37.out.trans hw8)
  rw [(op_no (k85 (b := []) (by decide))).1] at o8
  obtain ⟨A8, c8, rfl, _⟩ := o8.rdq (by decide)
  clear hw8 o8 X37
  go_wp2_with fail
  refine (bread_any _ 4 4 [0, 0, 0, 0] _ (rd0000 w8) (Nat.le_refl _) (by decide)).mono ?_
  rintro e w9 ⟨v9, rfl, o9, hw9⟩
  rw [(op_no (k85 (b := [0, 0, 0, 0]) (by decide))).2]
  rw [(op_no (k85 (b := [0, 0, 0, 0]) (by decide))).1] at o9
  obtain ⟨A9, c9, rfl, _⟩ := o9.rdq (by decide)
  have X39 := Lib.hid (X38.out.trans (show Ext w8 w9 from (by with_reducible (repeat (first | exact Ext.rfl_ _ | assumption | refine Ext.drew ?_ | refine Ext.drewN ?_ _ | refine Ext.alloc ?_ _ | refine Ext.trans ?_ (by assumption))))))
  clear hw9 o9 X38
  go_wp2_with fail
  refine (bget_any A3 19 c3 kB (some ⟨_, 0, none⟩) 2 2 [97, 99] 9 _ (R3b.out.ext (X39.out.trans (by with_reducible (repeat (first | exact Ext.rfl_ _ | assumption | refine Ext.drew ?_ | refine Ext.drewN ?_ _ | refine Ext.alloc ?_ _ | refine Ext.trans ?_ (litWorld_ext _ _ _) | refine Ext.setCell ?_ (by first | (simp; done) | (simp; omega)) _ | refine Ext.trans ?_ (by assumption)))))) l3 (by decide) (lit2e _ _ _ 97 99 (by simp)) (Nat.le_refl _) (by decide)).mono ?_
  rintro e wa ⟨⟨va, rfl, hra⟩, hwa⟩
  rw [k87.1] at hra
  rw [k87.2]
  obtain ⟨Aa, na, ca, Ba, ma, da', rfl, _⟩ := id hra
  have HRA := Lib.hid hra
  have X3A := Lib.hid (X39.out.trans (show Ext w9 wa from (by with_reducible (repeat (first | exact Ext.rfl_ _ | assumption | refine Ext.drew ?_ | refine Ext.drewN ?_ _ | refine Ext.alloc ?_ _ | refine Ext.trans ?_ (litWorld_ext _ _ _) | refine Ext.setCell ?_ (by first | (simp; done) | (simp; omega)) _ | refine Ext.trans ?_ (by assumption))))))
  have HBA := Lib.hid (blk1 wa (.cells #[.slice Aa na ca, .int .i64 d3.seq, .int .i64 d3.kind, .slice Ba ma da'] 28))
  clear hra hwa X39
  go_wp2_with fail
  refine (bget_any A3 19 c3 kB (some ⟨_, 0, none⟩) 2 2 [97, 99] 2 _ (R3b.out.ext (X3A.out.trans (by with_reducible (repeat (first | exact Ext.rfl_ _ | assumption | refine Ext.drew ?_ | refine Ext.drewN ?_ _ | refine Ext.alloc ?_ _ | refine Ext.trans ?_ (litWorld_ext _ _ _) | refine Ext.setCell ?_ (by first | (simp; done) | (simp; omega)) _ | refine Ext.trans ?_ (by assumption)))))) l3 (by decide) (lit2e _ _ _ 97 99 (by simp)) (Nat.le_refl _) (by decide)).mono ?_
  rintro e wb ⟨⟨vb, rfl, hrb⟩, hwb⟩
  rw [k88]
  obtain ⟨Ab, nb, cb, Bb, mb, db', rfl, _⟩ := id hrb
  have XAB := Lib.hid (show Ext (wa.alloc (.cells #[.slice Aa na ca, .int .i64 d3.seq, .int .i64 d3.kind, .slice Ba ma da'] 28)) wb from (by with_reducible (repeat (first | exact Ext.rfl_ _ | assumption | refine Ext.drew ?_ | refine Ext.drewN ?_ _ | refine Ext.alloc ?_ _ | refine Ext.trans ?_ (litWorld_ext _ _ _) | refine Ext.setCell ?_ (by first | (simp; done) | (simp; omega)) _ | refine Ext.trans ?_ (by assumption)))))
  clear hrb hwb
  have XBX := Lib.hid (show Ext (wa.alloc (.cells #[.slice Aa na ca, .int .i64 d3.seq, .int .i64 d3.kind, .slice Ba ma da'] 28)) (wb.alloc (.cells #[.slice Ab nb cb, .int .i64 (bgE kB [97, 99] 2).seq, .int .i64 (bgE kB [97, 99] 2).kind, .slice Bb mb db'] 28)) from XAB.out.trans (by with_reducible (repeat (first | exact Ext.rfl_ _ | assumption | refine Ext.drew ?_ | refine Ext.drewN ?_ _ | refine Ext.alloc ?_ _ | refine Ext.trans ?_ (by assumption)))))
  have HBX := Lib.hid (XBX.out.blk HBA.out)
  have HRX := Lib.hid (HRA.out.ext ((Ext.alloc (Ext.rfl_ _) _).trans XBX.out))
  have X3X := Lib.hid ((X3A.out.trans (Ext.alloc (Ext.rfl_ _) _)).trans XBX.out)
  obtain ⟨wx, hwx⟩ : ∃ wx, wx = wb.alloc (.cells #[.slice Ab nb cb, .int .i64 (bgE kB [97, 99] 2).seq, .int .i64 (bgE kB [97, 99] 2).kind, .slice Bb mb db'] 28) := ⟨_, rfl⟩
  rw [← hwx] at XBX HBX HRX X3X
  go_wp2
  rw [← hwx]
  have XW : Ext w wx := X3.out.trans X3X.out
  have hw0 : IntKind.i64.wrap 0 = 0 := rfl
  have hs1 : (ByteArray.mk (List.toArray kB) = ByteArray.mk #[0, 2, 97, 98, 5, 2, 1, 1, 99, 3, 2, 0, 0, 0, 0, 0, 0, 0, 1]) := rfl
  clear hwx
  refine wp_region_held_drew (S := (fun w' => w'.cell? ⟨wa.heap.size, 0, none⟩ = some (.slice Aa na ca) ∧ w'.cell? ⟨wa.heap.size, 1, none⟩ = some (.int .i64 d3.seq) ∧ w'.cell? ⟨wa.heap.size, 2, none⟩ = some (.int .i64 d3.kind) ∧ w'.cell? ⟨wa.heap.size, 3, none⟩ = some (.slice Ba ma da') ∧ w'.frozen? ⟨wa.heap.size, 0, none⟩ = false ∧ w'.frozen? ⟨wa.heap.size, 1, none⟩ = false ∧ w'.frozen? ⟨wa.heap.size, 2, none⟩ = false ∧ w'.frozen? ⟨wa.heap.size, 3, none⟩ = false)) (by kernel_rfl) (by (try dsimp only); exact box4 HBX.out (by with_reducible (repeat (first | exact Ext.rfl_ _ | assumption | refine Ext.drew ?_ | refine Ext.drewN ?_ _ | refine Ext.alloc ?_ _ | refine Ext.trans ?_ (litWorld_ext _ _ _) | refine Ext.setCell ?_ (by first | (simp; done) | (simp; omega)) _ | refine Ext.trans ?_ (by assumption))))) (fun hHeld => ?_)
  refine wpAnyH_take (i := 0) (oi := ({ dst := some 56, op := Go.Op.move (Go.Operand.tmp 1), type := 22, pos := "law.go:31", after := #[], guard := none } : Go.Oper)) (v := ?v1) rfl (by kernel_rfl) (by kernel_rfl) (by kernel_rfl) (fun _ _ _ h => h) (Or.inl ⟨by rfl, ?hy1⟩) (by assumption) ?rest1
  case hy1 => (intro w hSw; (try dsimp only at hSw); go_simp; (try with_reducible rfl))
  (try simp only [Act.put, List.getElem_toArray, List.getElem_cons_zero, List.getElem_cons_succ, List.setIfInBounds_toArray, List.set_cons_zero, List.set_cons_succ])
  refine wpAnyH_ready (rs := [1]) (by kernel_rfl) (by simp) ?_
  refine AllReadyH.cons (o := ({ dst := some 57, op := Go.Op.convert 22 9 (Go.Operand.tmp 56), type := 9, pos := "law.go:31", after := #[{ on := 0, ground := Go.Ground.data }], guard := none } : Go.Oper)) rfl (fun K hK => ?_) AllReadyH.nil
  go_simp; rw [Rd.str (P := Try.prog) (x := kB) (?_ : Rd _ A3 19 (kB)) c3 22 5 9 Try.underlying22 Try.underlying5 Try.underlying9]; rotate_left; exact (R3b.out.ext (X3X.out.trans (by with_reducible (repeat (first | exact Ext.rfl_ _ | assumption | refine Ext.drew ?_ | refine Ext.drewN ?_ _ | refine Ext.alloc ?_ _ | refine Ext.trans ?_ (litWorld_ext _ _ _) | refine Ext.setCell ?_ (by first | (simp; done) | (simp; omega)) _ | refine Ext.trans ?_ (by assumption)))))); simp only [Result.andThen]; go_simp; (try rw [hs1])
  refine hK.out _ _ (by (try dsimp only); exact box4 HBX.out (by with_reducible (repeat (first | exact Ext.rfl_ _ | assumption | refine Ext.drew ?_ | refine Ext.drewN ?_ _ | refine Ext.alloc ?_ _ | refine Ext.trans ?_ (litWorld_ext _ _ _) | refine Ext.setCell ?_ (by first | (simp; done) | (simp; omega)) _ | refine Ext.trans ?_ (by assumption))))) (fun hHeld => ?_)
  clear hK K
  (try simp only [Act.put, List.getElem_toArray, List.getElem_cons_zero, List.getElem_cons_succ, List.setIfInBounds_toArray, List.set_cons_zero, List.set_cons_succ])
  refine wpAnyH_take (i := 2) (oi := ({ dst := some 58, op := Go.Op.binOp Go.BinOp.eql 9 (Go.Operand.tmp 57) (Go.Operand.const (Go.Value.string { data := #[0, 2, 97, 98, 5, 2, 1, 1, 99, 3, 2, 0, 0, 0, 0, 0, 0, 0, 1] })) 9, type := 4, pos := "law.go:31", after := #[{ on := 1, ground := Go.Ground.data }], guard := none } : Go.Oper)) (v := ?v2) rfl (by kernel_rfl) (by kernel_rfl) (by kernel_rfl) (fun _ _ _ h => h) (Or.inl ⟨by rfl, ?hy2⟩) (by assumption) ?rest2
  case hy2 => (intro w hSw; (try dsimp only at hSw); go_simp; (try with_reducible rfl))
  (try simp only [Act.put, List.getElem_toArray, List.getElem_cons_zero, List.getElem_cons_succ, List.setIfInBounds_toArray, List.set_cons_zero, List.set_cons_succ])
  refine wpAnyH_take (i := 3) (oi := ({ dst := some 59, op := Go.Op.move (Go.Operand.tmp 58), type := 4, pos := "law.go:31", after := #[{ on := 2, ground := Go.Ground.data }], guard := none } : Go.Oper)) (v := ?v3) rfl (by kernel_rfl) (by kernel_rfl) (by kernel_rfl) (fun _ _ _ h => h) (Or.inl ⟨by rfl, ?hy3⟩) (by assumption) ?rest3
  case hy3 => (intro w hSw; (try dsimp only at hSw); go_simp; (try with_reducible rfl))
  (try simp only [Act.put, List.getElem_toArray, List.getElem_cons_zero, List.getElem_cons_succ, List.setIfInBounds_toArray, List.set_cons_zero, List.set_cons_succ])
  refine wpAnyH_take (i := 4) (oi := ({ dst := some 60, op := Go.Op.move (Go.Operand.tmp 2), type := 29, pos := "law.go:31", after := #[{ on := 3, ground := Go.Ground.guard }], guard := some (3, true) } : Go.Oper)) (v := ?v4) rfl (by kernel_rfl) (by kernel_rfl) (by kernel_rfl) (fun _ _ _ h => h) (Or.inl ⟨by rfl, ?hy4⟩) (by assumption) ?rest4
  case hy4 => (intro w hSw; (try dsimp only at hSw); go_simp; (try with_reducible rfl))
  (try simp only [Act.put, List.getElem_toArray, List.getElem_cons_zero, List.getElem_cons_succ, List.setIfInBounds_toArray, List.set_cons_zero, List.set_cons_succ])
  refine wpAnyH_take (i := 6) (oi := ({ dst := some 62, op := Go.Op.move (Go.Operand.tmp 12), type := 29, pos := "law.go:31", after := #[{ on := 3, ground := Go.Ground.guard }], guard := some (3, true) } : Go.Oper)) (v := ?v5) rfl (by kernel_rfl) (by kernel_rfl) (by kernel_rfl) (fun _ _ _ h => h) (Or.inl ⟨by rfl, ?hy5⟩) (by assumption) ?rest5
  case hy5 => (intro w hSw; (try dsimp only at hSw); go_simp; (try with_reducible rfl))
  (try simp only [Act.put, List.getElem_toArray, List.getElem_cons_zero, List.getElem_cons_succ, List.setIfInBounds_toArray, List.set_cons_zero, List.set_cons_succ])
  refine wpAnyH_ready (rs := [5]) (by kernel_rfl) (by simp) ?_
  refine AllReadyH.cons (o := ({ dst := some 61, op := Go.Op.call { callee := Go.Callee.value (Go.Operand.func 16), args := #[Go.Operand.tmp 60], argTypes := #[29] }, type := 3, pos := "law.go:31", after := #[{ on := 4, ground := Go.Ground.data }, { on := 3, ground := Go.Ground.chain }, { on := 3, ground := Go.Ground.guard }], guard := some (3, true) } : Go.Oper)) rfl (fun K hK => ?_) AllReadyH.nil
  go_simp; refine (num_any _ _).mono ?_; rintro e wn ⟨rfl, rfl⟩; (try (go_wp2_with fail))
  refine hK.out _ _ (by (try dsimp only); exact box4 HBX.out (by with_reducible (repeat (first | exact Ext.rfl_ _ | assumption | refine Ext.drew ?_ | refine Ext.drewN ?_ _ | refine Ext.alloc ?_ _ | refine Ext.trans ?_ (litWorld_ext _ _ _) | refine Ext.setCell ?_ (by first | (simp; done) | (simp; omega)) _ | refine Ext.trans ?_ (by assumption))))) (fun hHeld => ?_)
  clear hK K
  (try simp only [Act.put, List.getElem_toArray, List.getElem_cons_zero, List.getElem_cons_succ, List.setIfInBounds_toArray, List.set_cons_zero, List.set_cons_succ])
  refine wpAnyH_ready (rs := [7]) (by kernel_rfl) (by simp) ?_
  refine AllReadyH.cons (o := ({ dst := some 63, op := Go.Op.call { callee := Go.Callee.value (Go.Operand.func 16), args := #[Go.Operand.tmp 62], argTypes := #[29] }, type := 3, pos := "law.go:31", after := #[{ on := 6, ground := Go.Ground.data }, { on := 5, ground := Go.Ground.chain }, { on := 3, ground := Go.Ground.guard }], guard := some (3, true) } : Go.Oper)) rfl (fun K hK => ?_) AllReadyH.nil
  go_simp; refine (num_any _ _).mono ?_; rintro e wn ⟨rfl, rfl⟩; (try (go_wp2_with fail))
  refine hK.out _ _ (by (try dsimp only); exact box4 HBX.out (by with_reducible (repeat (first | exact Ext.rfl_ _ | assumption | refine Ext.drew ?_ | refine Ext.drewN ?_ _ | refine Ext.alloc ?_ _ | refine Ext.trans ?_ (litWorld_ext _ _ _) | refine Ext.setCell ?_ (by first | (simp; done) | (simp; omega)) _ | refine Ext.trans ?_ (by assumption))))) (fun hHeld => ?_)
  clear hK K
  (try simp only [Act.put, List.getElem_toArray, List.getElem_cons_zero, List.getElem_cons_succ, List.setIfInBounds_toArray, List.set_cons_zero, List.set_cons_succ])
  refine wpAnyH_take (i := 8) (oi := ({ dst := some 64, op := Go.Op.binOp Go.BinOp.add 3 (Go.Operand.tmp 61) (Go.Operand.tmp 63) 3, type := 3, pos := "law.go:31", after := #[{ on := 5, ground := Go.Ground.data }, { on := 7, ground := Go.Ground.data }, { on := 3, ground := Go.Ground.guard }], guard := some (3, true) } : Go.Oper)) (v := ?v6) rfl (by kernel_rfl) (by kernel_rfl) (by kernel_rfl) (fun _ _ _ h => h) (Or.inl ⟨by rfl, ?hy6⟩) (by assumption) ?rest6
  case hy6 => (intro w hSw; (try dsimp only at hSw); go_simp; (try with_reducible rfl))
  (try simp only [Act.put, List.getElem_toArray, List.getElem_cons_zero, List.getElem_cons_succ, List.setIfInBounds_toArray, List.set_cons_zero, List.set_cons_succ])
  refine wpAnyH_take (i := 9) (oi := ({ dst := some 65, op := Go.Op.binOp Go.BinOp.eql 3 (Go.Operand.tmp 64) (Go.Operand.const (Go.Value.int Go.IntKind.i64 0)) 3, type := 4, pos := "law.go:31", after := #[{ on := 8, ground := Go.Ground.data }, { on := 3, ground := Go.Ground.guard }], guard := some (3, true) } : Go.Oper)) (v := ?v7) rfl (by kernel_rfl) (by kernel_rfl) (by kernel_rfl) (fun _ _ _ h => h) (Or.inl ⟨by rfl, ?hy7⟩) (by assumption) ?rest7
  case hy7 => (intro w hSw; (try dsimp only at hSw); go_simp; (try with_reducible rfl))
  (try simp only [Act.put, List.getElem_toArray, List.getElem_cons_zero, List.getElem_cons_succ, List.setIfInBounds_toArray, List.set_cons_zero, List.set_cons_succ])
  refine wpAnyH_take (i := 10) (oi := ({ dst := some 66, op := Go.Op.pick (Go.Operand.tmp 59) (Go.Operand.tmp 65) (Go.Operand.const (Go.Value.bool false)), type := 4, pos := "law.go:31", after := #[{ on := 3, ground := Go.Ground.data }, { on := 9, ground := Go.Ground.data }], guard := none } : Go.Oper)) (v := ?v8) rfl (by kernel_rfl) (by kernel_rfl) (by kernel_rfl) (fun _ _ _ h => h) (Or.inl ⟨by rfl, ?hy8⟩) (by assumption) ?rest8
  case hy8 => (intro w hSw; (try dsimp only at hSw); go_simp; (try with_reducible rfl))
  (try simp only [Act.put, List.getElem_toArray, List.getElem_cons_zero, List.getElem_cons_succ, List.setIfInBounds_toArray, List.set_cons_zero, List.set_cons_succ])
  refine wpAnyH_take (i := 11) (oi := ({ dst := some 67, op := Go.Op.move (Go.Operand.tmp 66), type := 4, pos := "law.go:31", after := #[{ on := 10, ground := Go.Ground.data }, { on := 7, ground := Go.Ground.chain }], guard := none } : Go.Oper)) (v := ?v9) rfl (by kernel_rfl) (by kernel_rfl) (by kernel_rfl) (fun _ _ _ h => h) (Or.inl ⟨by rfl, ?hy9⟩) (by assumption) ?rest9
  case hy9 => (intro w hSw; (try dsimp only at hSw); go_simp; (try with_reducible rfl))
  (try simp only [Act.put, List.getElem_toArray, List.getElem_cons_zero, List.getElem_cons_succ, List.setIfInBounds_toArray, List.set_cons_zero, List.set_cons_succ])
  refine wpAnyH_take (i := 12) (oi := ({ dst := some 68, op := Go.Op.move (Go.Operand.tmp 4), type := 29, pos := "law.go:31", after := #[{ on := 11, ground := Go.Ground.guard }], guard := some (11, true) } : Go.Oper)) (v := ?v10) rfl (by kernel_rfl) (by kernel_rfl) (by kernel_rfl) (fun _ _ _ h => h) (Or.inl ⟨by rfl, ?hy10⟩) (by assumption) ?rest10
  case hy10 => (intro w hSw; (try dsimp only at hSw); go_simp; (try with_reducible rfl))
  (try simp only [Act.put, List.getElem_toArray, List.getElem_cons_zero, List.getElem_cons_succ, List.setIfInBounds_toArray, List.set_cons_zero, List.set_cons_succ])
  refine wpAnyH_ready (rs := [13]) (by kernel_rfl) (by simp) ?_
  refine AllReadyH.cons (o := ({ dst := some 69, op := Go.Op.call { callee := Go.Callee.value (Go.Operand.func 16), args := #[Go.Operand.tmp 68], argTypes := #[29] }, type := 3, pos := "law.go:31", after := #[{ on := 12, ground := Go.Ground.data }, { on := 11, ground := Go.Ground.chain }, { on := 11, ground := Go.Ground.guard }], guard := some (11, true) } : Go.Oper)) rfl (fun K hK => ?_) AllReadyH.nil
  go_simp; refine (num_any _ _).mono ?_; rintro e wn ⟨rfl, rfl⟩; (try (go_wp2_with fail))
  refine hK.out _ _ (by (try dsimp only); exact box4 HBX.out (by with_reducible (repeat (first | exact Ext.rfl_ _ | assumption | refine Ext.drew ?_ | refine Ext.drewN ?_ _ | refine Ext.alloc ?_ _ | refine Ext.trans ?_ (litWorld_ext _ _ _) | refine Ext.setCell ?_ (by first | (simp; done) | (simp; omega)) _ | refine Ext.trans ?_ (by assumption))))) (fun hHeld => ?_)
  clear hK K
  (try simp only [Act.put, List.getElem_toArray, List.getElem_cons_zero, List.getElem_cons_succ, List.setIfInBounds_toArray, List.set_cons_zero, List.set_cons_succ])
  refine wpAnyH_take (i := 14) (oi := ({ dst := some 70, op := Go.Op.binOp Go.BinOp.eql 3 (Go.Operand.tmp 69) (Go.Operand.const (Go.Value.int Go.IntKind.i64 2)) 3, type := 4, pos := "law.go:31", after := #[{ on := 13, ground := Go.Ground.data }, { on := 11, ground := Go.Ground.guard }], guard := some (11, true) } : Go.Oper)) (v := ?v11) rfl (by kernel_rfl) (by kernel_rfl) (by kernel_rfl) (fun _ _ _ h => h) (Or.inl ⟨by rfl, ?hy11⟩) (by assumption) ?rest11
  case hy11 => (intro w hSw; (try dsimp only at hSw); go_simp; (try with_reducible rfl))
  (try simp only [Act.put, List.getElem_toArray, List.getElem_cons_zero, List.getElem_cons_succ, List.setIfInBounds_toArray, List.set_cons_zero, List.set_cons_succ])
  refine wpAnyH_take (i := 15) (oi := ({ dst := some 71, op := Go.Op.pick (Go.Operand.tmp 67) (Go.Operand.tmp 70) (Go.Operand.const (Go.Value.bool false)), type := 4, pos := "law.go:31", after := #[{ on := 11, ground := Go.Ground.data }, { on := 14, ground := Go.Ground.data }], guard := none } : Go.Oper)) (v := ?v12) rfl (by kernel_rfl) (by kernel_rfl) (by kernel_rfl) (fun _ _ _ h => h) (Or.inl ⟨by rfl, ?hy12⟩) (by assumption) ?rest12
  case hy12 => (intro w hSw; (try dsimp only at hSw); go_simp; (try with_reducible rfl))
  (try simp only [Act.put, List.getElem_toArray, List.getElem_cons_zero, List.getElem_cons_succ, List.setIfInBounds_toArray, List.set_cons_zero, List.set_cons_succ])
  refine wpAnyH_take (i := 16) (oi := ({ dst := some 72, op := Go.Op.move (Go.Operand.tmp 71), type := 4, pos := "law.go:31", after := #[{ on := 15, ground := Go.Ground.data }, { on := 13, ground := Go.Ground.chain }], guard := none } : Go.Oper)) (v := ?v13) rfl (by kernel_rfl) (by kernel_rfl) (by kernel_rfl) (fun _ _ _ h => h) (Or.inl ⟨by rfl, ?hy13⟩) (by assumption) ?rest13
  case hy13 => (intro w hSw; (try dsimp only at hSw); go_simp; (try with_reducible rfl))
  (try simp only [Act.put, List.getElem_toArray, List.getElem_cons_zero, List.getElem_cons_succ, List.setIfInBounds_toArray, List.set_cons_zero, List.set_cons_succ])
  refine wpAnyH_take (i := 17) (oi := ({ dst := some 73, op := Go.Op.move (Go.Operand.tmp 6), type := 29, pos := "law.go:31", after := #[{ on := 16, ground := Go.Ground.guard }], guard := some (16, true) } : Go.Oper)) (v := ?v14) rfl (by kernel_rfl) (by kernel_rfl) (by kernel_rfl) (fun _ _ _ h => h) (Or.inl ⟨by rfl, ?hy14⟩) (by assumption) ?rest14
  case hy14 => (intro w hSw; (try dsimp only at hSw); go_simp; (try with_reducible rfl))
  (try simp only [Act.put, List.getElem_toArray, List.getElem_cons_zero, List.getElem_cons_succ, List.setIfInBounds_toArray, List.set_cons_zero, List.set_cons_succ])
  refine wpAnyH_ready (rs := [18]) (by kernel_rfl) (by simp) ?_
  refine AllReadyH.cons (o := ({ dst := some 74, op := Go.Op.call { callee := Go.Callee.value (Go.Operand.func 16), args := #[Go.Operand.tmp 73], argTypes := #[29] }, type := 3, pos := "law.go:31", after := #[{ on := 17, ground := Go.Ground.data }, { on := 16, ground := Go.Ground.chain }, { on := 16, ground := Go.Ground.guard }], guard := some (16, true) } : Go.Oper)) rfl (fun K hK => ?_) AllReadyH.nil
  go_simp; refine (num_any _ _).mono ?_; rintro e wn ⟨rfl, rfl⟩; (try (go_wp2_with fail))
  refine hK.out _ _ (by (try dsimp only); exact box4 HBX.out (by with_reducible (repeat (first | exact Ext.rfl_ _ | assumption | refine Ext.drew ?_ | refine Ext.drewN ?_ _ | refine Ext.alloc ?_ _ | refine Ext.trans ?_ (litWorld_ext _ _ _) | refine Ext.setCell ?_ (by first | (simp; done) | (simp; omega)) _ | refine Ext.trans ?_ (by assumption))))) (fun hHeld => ?_)
  clear hK K
  (try simp only [Act.put, List.getElem_toArray, List.getElem_cons_zero, List.getElem_cons_succ, List.setIfInBounds_toArray, List.set_cons_zero, List.set_cons_succ])
  refine wpAnyH_take (i := 19) (oi := ({ dst := some 75, op := Go.Op.binOp Go.BinOp.eql 3 (Go.Operand.tmp 74) (Go.Operand.const (Go.Value.int Go.IntKind.i64 2)) 3, type := 4, pos := "law.go:31", after := #[{ on := 18, ground := Go.Ground.data }, { on := 16, ground := Go.Ground.guard }], guard := some (16, true) } : Go.Oper)) (v := ?v15) rfl (by kernel_rfl) (by kernel_rfl) (by kernel_rfl) (fun _ _ _ h => h) (Or.inl ⟨by rfl, ?hy15⟩) (by assumption) ?rest15
  case hy15 => (intro w hSw; (try dsimp only at hSw); go_simp; (try with_reducible rfl))
  (try simp only [Act.put, List.getElem_toArray, List.getElem_cons_zero, List.getElem_cons_succ, List.setIfInBounds_toArray, List.set_cons_zero, List.set_cons_succ])
  refine wpAnyH_take (i := 20) (oi := ({ dst := some 76, op := Go.Op.pick (Go.Operand.tmp 72) (Go.Operand.tmp 75) (Go.Operand.const (Go.Value.bool false)), type := 4, pos := "law.go:31", after := #[{ on := 16, ground := Go.Ground.data }, { on := 19, ground := Go.Ground.data }], guard := none } : Go.Oper)) (v := ?v16) rfl (by kernel_rfl) (by kernel_rfl) (by kernel_rfl) (fun _ _ _ h => h) (Or.inl ⟨by rfl, ?hy16⟩) (by assumption) ?rest16
  case hy16 => (intro w hSw; (try dsimp only at hSw); go_simp; (try with_reducible rfl))
  (try simp only [Act.put, List.getElem_toArray, List.getElem_cons_zero, List.getElem_cons_succ, List.setIfInBounds_toArray, List.set_cons_zero, List.set_cons_succ])
  refine wpAnyH_take (i := 21) (oi := ({ dst := some 77, op := Go.Op.move (Go.Operand.tmp 76), type := 4, pos := "law.go:31", after := #[{ on := 20, ground := Go.Ground.data }, { on := 18, ground := Go.Ground.chain }], guard := none } : Go.Oper)) (v := ?v17) rfl (by kernel_rfl) (by kernel_rfl) (by kernel_rfl) (fun _ _ _ h => h) (Or.inl ⟨by rfl, ?hy17⟩) (by assumption) ?rest17
  case hy17 => (intro w hSw; (try dsimp only at hSw); go_simp; (try with_reducible rfl))
  (try simp only [Act.put, List.getElem_toArray, List.getElem_cons_zero, List.getElem_cons_succ, List.setIfInBounds_toArray, List.set_cons_zero, List.set_cons_succ])
  refine wpAnyH_take (i := 22) (oi := ({ dst := some 78, op := Go.Op.move (Go.Operand.tmp 8), type := 29, pos := "law.go:31", after := #[{ on := 21, ground := Go.Ground.guard }], guard := some (21, true) } : Go.Oper)) (v := ?v18) rfl (by kernel_rfl) (by kernel_rfl) (by kernel_rfl) (fun _ _ _ h => h) (Or.inl ⟨by rfl, ?hy18⟩) (by assumption) ?rest18
  case hy18 => (intro w hSw; (try dsimp only at hSw); go_simp; (try with_reducible rfl))
  (try simp only [Act.put, List.getElem_toArray, List.getElem_cons_zero, List.getElem_cons_succ, List.setIfInBounds_toArray, List.set_cons_zero, List.set_cons_succ])
  refine wpAnyH_ready (rs := [23]) (by kernel_rfl) (by simp) ?_
  refine AllReadyH.cons (o := ({ dst := some 79, op := Go.Op.call { callee := Go.Callee.value (Go.Operand.func 16), args := #[Go.Operand.tmp 78], argTypes := #[29] }, type := 3, pos := "law.go:31", after := #[{ on := 22, ground := Go.Ground.data }, { on := 21, ground := Go.Ground.chain }, { on := 21, ground := Go.Ground.guard }], guard := some (21, true) } : Go.Oper)) rfl (fun K hK => ?_) AllReadyH.nil
  go_simp; refine (num_any _ _).mono ?_; rintro e wn ⟨rfl, rfl⟩; (try (go_wp2_with fail))
  refine hK.out _ _ (by (try dsimp only); exact box4 HBX.out (by with_reducible (repeat (first | exact Ext.rfl_ _ | assumption | refine Ext.drew ?_ | refine Ext.drewN ?_ _ | refine Ext.alloc ?_ _ | refine Ext.trans ?_ (litWorld_ext _ _ _) | refine Ext.setCell ?_ (by first | (simp; done) | (simp; omega)) _ | refine Ext.trans ?_ (by assumption))))) (fun hHeld => ?_)
  clear hK K
  (try simp only [Act.put, List.getElem_toArray, List.getElem_cons_zero, List.getElem_cons_succ, List.setIfInBounds_toArray, List.set_cons_zero, List.set_cons_succ])
  refine wpAnyH_take (i := 24) (oi := ({ dst := some 80, op := Go.Op.binOp Go.BinOp.eql 3 (Go.Operand.tmp 79) (Go.Operand.const (Go.Value.int Go.IntKind.i64 4)) 3, type := 4, pos := "law.go:31", after := #[{ on := 23, ground := Go.Ground.data }, { on := 21, ground := Go.Ground.guard }], guard := some (21, true) } : Go.Oper)) (v := ?v19) rfl (by kernel_rfl) (by kernel_rfl) (by kernel_rfl) (fun _ _ _ h => h) (Or.inl ⟨by rfl, ?hy19⟩) (by assumption) ?rest19
  case hy19 => (intro w hSw; (try dsimp only at hSw); go_simp; (try with_reducible rfl))
  (try simp only [Act.put, List.getElem_toArray, List.getElem_cons_zero, List.getElem_cons_succ, List.setIfInBounds_toArray, List.set_cons_zero, List.set_cons_succ])
  refine wpAnyH_take (i := 25) (oi := ({ dst := some 81, op := Go.Op.pick (Go.Operand.tmp 77) (Go.Operand.tmp 80) (Go.Operand.const (Go.Value.bool false)), type := 4, pos := "law.go:31", after := #[{ on := 21, ground := Go.Ground.data }, { on := 24, ground := Go.Ground.data }], guard := none } : Go.Oper)) (v := ?v20) rfl (by kernel_rfl) (by kernel_rfl) (by kernel_rfl) (fun _ _ _ h => h) (Or.inl ⟨by rfl, ?hy20⟩) (by assumption) ?rest20
  case hy20 => (intro w hSw; (try dsimp only at hSw); go_simp; (try with_reducible rfl))
  (try simp only [Act.put, List.getElem_toArray, List.getElem_cons_zero, List.getElem_cons_succ, List.setIfInBounds_toArray, List.set_cons_zero, List.set_cons_succ])
  refine wpAnyH_take (i := 26) (oi := ({ dst := some 82, op := Go.Op.move (Go.Operand.tmp 81), type := 4, pos := "law.go:31", after := #[{ on := 25, ground := Go.Ground.data }, { on := 23, ground := Go.Ground.chain }], guard := none } : Go.Oper)) (v := ?v21) rfl (by kernel_rfl) (by kernel_rfl) (by kernel_rfl) (fun _ _ _ h => h) (Or.inl ⟨by rfl, ?hy21⟩) (by assumption) ?rest21
  case hy21 => (intro w hSw; (try dsimp only at hSw); go_simp; (try with_reducible rfl))
  (try simp only [Act.put, List.getElem_toArray, List.getElem_cons_zero, List.getElem_cons_succ, List.setIfInBounds_toArray, List.set_cons_zero, List.set_cons_succ])
  refine wpAnyH_take (i := 27) (oi := ({ dst := some 83, op := Go.Op.move (Go.Operand.tmp 10), type := 29, pos := "law.go:31", after := #[{ on := 26, ground := Go.Ground.guard }], guard := some (26, true) } : Go.Oper)) (v := ?v22) rfl (by kernel_rfl) (by kernel_rfl) (by kernel_rfl) (fun _ _ _ h => h) (Or.inl ⟨by rfl, ?hy22⟩) (by assumption) ?rest22
  case hy22 => (intro w hSw; (try dsimp only at hSw); go_simp; (try with_reducible rfl))
  (try simp only [Act.put, List.getElem_toArray, List.getElem_cons_zero, List.getElem_cons_succ, List.setIfInBounds_toArray, List.set_cons_zero, List.set_cons_succ])
  refine wpAnyH_ready (rs := [28]) (by kernel_rfl) (by simp) ?_
  refine AllReadyH.cons (o := ({ dst := some 84, op := Go.Op.call { callee := Go.Callee.value (Go.Operand.func 16), args := #[Go.Operand.tmp 83], argTypes := #[29] }, type := 3, pos := "law.go:31", after := #[{ on := 27, ground := Go.Ground.data }, { on := 26, ground := Go.Ground.chain }, { on := 26, ground := Go.Ground.guard }], guard := some (26, true) } : Go.Oper)) rfl (fun K hK => ?_) AllReadyH.nil
  go_simp; refine (num_any _ _).mono ?_; rintro e wn ⟨rfl, rfl⟩; (try (go_wp2_with fail))
  refine hK.out _ _ (by (try dsimp only); exact box4 HBX.out (by with_reducible (repeat (first | exact Ext.rfl_ _ | assumption | refine Ext.drew ?_ | refine Ext.drewN ?_ _ | refine Ext.alloc ?_ _ | refine Ext.trans ?_ (litWorld_ext _ _ _) | refine Ext.setCell ?_ (by first | (simp; done) | (simp; omega)) _ | refine Ext.trans ?_ (by assumption))))) (fun hHeld => ?_)
  clear hK K
  (try simp only [Act.put, List.getElem_toArray, List.getElem_cons_zero, List.getElem_cons_succ, List.setIfInBounds_toArray, List.set_cons_zero, List.set_cons_succ])
  refine wpAnyH_take (i := 29) (oi := ({ dst := some 85, op := Go.Op.binOp Go.BinOp.eql 3 (Go.Operand.tmp 84) (Go.Operand.const (Go.Value.int Go.IntKind.i64 4)) 3, type := 4, pos := "law.go:31", after := #[{ on := 28, ground := Go.Ground.data }, { on := 26, ground := Go.Ground.guard }], guard := some (26, true) } : Go.Oper)) (v := ?v23) rfl (by kernel_rfl) (by kernel_rfl) (by kernel_rfl) (fun _ _ _ h => h) (Or.inl ⟨by rfl, ?hy23⟩) (by assumption) ?rest23
  case hy23 => (intro w hSw; (try dsimp only at hSw); go_simp; (try with_reducible rfl))
  (try simp only [Act.put, List.getElem_toArray, List.getElem_cons_zero, List.getElem_cons_succ, List.setIfInBounds_toArray, List.set_cons_zero, List.set_cons_succ])
  refine wpAnyH_take (i := 30) (oi := ({ dst := some 86, op := Go.Op.pick (Go.Operand.tmp 82) (Go.Operand.tmp 85) (Go.Operand.const (Go.Value.bool false)), type := 4, pos := "law.go:31", after := #[{ on := 26, ground := Go.Ground.data }, { on := 29, ground := Go.Ground.data }], guard := none } : Go.Oper)) (v := ?v24) rfl (by kernel_rfl) (by kernel_rfl) (by kernel_rfl) (fun _ _ _ h => h) (Or.inl ⟨by rfl, ?hy24⟩) (by assumption) ?rest24
  case hy24 => (intro w hSw; (try dsimp only at hSw); go_simp; (try with_reducible rfl))
  (try simp only [Act.put, List.getElem_toArray, List.getElem_cons_zero, List.getElem_cons_succ, List.setIfInBounds_toArray, List.set_cons_zero, List.set_cons_succ])
  refine wpAnyH_take (i := 31) (oi := ({ dst := some 87, op := Go.Op.move (Go.Operand.tmp 86), type := 4, pos := "law.go:31", after := #[{ on := 30, ground := Go.Ground.data }, { on := 28, ground := Go.Ground.chain }], guard := none } : Go.Oper)) (v := ?v25) rfl (by kernel_rfl) (by kernel_rfl) (by kernel_rfl) (fun _ _ _ h => h) (Or.inl ⟨by rfl, ?hy25⟩) (by assumption) ?rest25
  case hy25 => (intro w hSw; (try dsimp only at hSw); go_simp; (try with_reducible rfl))
  (try simp only [Act.put, List.getElem_toArray, List.getElem_cons_zero, List.getElem_cons_succ, List.setIfInBounds_toArray, List.set_cons_zero, List.set_cons_succ])
  refine wpAnyH_take (i := 32) (oi := ({ dst := some 88, op := Go.Op.load 28 (Go.Operand.tmp 11), type := 28, pos := "law.go:31", after := #[{ on := 31, ground := Go.Ground.guard }], guard := some (31, true) } : Go.Oper)) (v := ?v26) rfl (by kernel_rfl) (by kernel_rfl) (by kernel_rfl) (fun _ _ _ h => h) (Or.inl ⟨by rfl, ?hy26⟩) (by assumption) ?rest26
  case hy26 => (intro w hSw; (try dsimp only at hSw); go_simp; (try with_reducible rfl))
  (try simp only [Act.put, List.getElem_toArray, List.getElem_cons_zero, List.getElem_cons_succ, List.setIfInBounds_toArray, List.set_cons_zero, List.set_cons_succ])
  refine wpAnyH_ready (rs := [33]) (by kernel_rfl) (by simp) ?_
  refine AllReadyH.cons (o := ({ dst := some 89, op := Go.Op.call { callee := Go.Callee.value (Go.Operand.func 30), args := #[Go.Operand.const (Go.Value.string { data := #[97, 99] }), Go.Operand.const (Go.Value.int Go.IntKind.i64 3)], argTypes := #[9, 2] }, type := 28, pos := "law.go:31", after := #[{ on := 31, ground := Go.Ground.chain }, { on := 31, ground := Go.Ground.guard }], guard := some (31, true) } : Go.Oper)) rfl (fun K hK => ?_) AllReadyH.nil
  go_simp; refine (ldel_any [97, 99] 3 _ (by decide)).mono ?_; rintro e wd ⟨ud, rfl, hud, hwd⟩; (try (go_wp2_with fail))
  refine hK.out _ _ (by (try dsimp only); exact box4 HBX.out (by with_reducible (repeat (first | exact Ext.rfl_ _ | assumption | refine Ext.drew ?_ | refine Ext.drewN ?_ _ | refine Ext.alloc ?_ _ | refine Ext.trans ?_ (litWorld_ext _ _ _) | refine Ext.setCell ?_ (by first | (simp; done) | (simp; omega)) _ | refine Ext.trans ?_ (by assumption))))) (fun hHeld => ?_)
  clear hK K
  (try simp only [Act.put, List.getElem_toArray, List.getElem_cons_zero, List.getElem_cons_succ, List.setIfInBounds_toArray, List.set_cons_zero, List.set_cons_succ])
  refine wpAnyH_ready (rs := [34]) (by kernel_rfl) (by simp) ?_
  refine AllReadyH.cons (o := ({ dst := some 90, op := Go.Op.call { callee := Go.Callee.value (Go.Operand.func 15), args := #[Go.Operand.tmp 88, Go.Operand.tmp 89], argTypes := #[28, 28] }, type := 4, pos := "law.go:31", after := #[{ on := 32, ground := Go.Ground.data }, { on := 33, ground := Go.Ground.data }, { on := 33, ground := Go.Ground.chain }, { on := 31, ground := Go.Ground.guard }], guard := some (31, true) } : Go.Oper)) rfl (fun K hK => ?_) AllReadyH.nil
  go_simp; refine (rsame_self _ _ d3 _ ?_ ?_).mono ?_; exact HRX.out.ext (by with_reducible (repeat (first | exact Ext.rfl_ _ | assumption | refine Ext.drew ?_ | refine Ext.drewN ?_ _ | refine Ext.alloc ?_ _ | refine Ext.trans ?_ (litWorld_ext _ _ _) | refine Ext.setCell ?_ (by first | (simp; done) | (simp; omega)) _ | refine Ext.trans ?_ (by assumption)))); exact hud.ext (by with_reducible (repeat (first | exact Ext.rfl_ _ | assumption | refine Ext.drew ?_ | refine Ext.drewN ?_ _ | refine Ext.alloc ?_ _ | refine Ext.trans ?_ (litWorld_ext _ _ _) | refine Ext.setCell ?_ (by first | (simp; done) | (simp; omega)) _ | refine Ext.trans ?_ (by assumption)))); rintro e we ⟨rfl, hwe⟩; (try (go_wp2_with fail))
  refine hK.out _ _ (by (try dsimp only); exact box4 HBX.out (by with_reducible (repeat (first | exact Ext.rfl_ _ | assumption | refine Ext.drew ?_ | refine Ext.drewN ?_ _ | refine Ext.alloc ?_ _ | refine Ext.trans ?_ (litWorld_ext _ _ _) | refine Ext.setCell ?_ (by first | (simp; done) | (simp; omega)) _ | refine Ext.trans ?_ (by assumption))))) (fun hHeld => ?_)
  clear hK K
  (try simp only [Act.put, List.getElem_toArray, List.getElem_cons_zero, List.getElem_cons_succ, List.setIfInBounds_toArray, List.set_cons_zero, List.set_cons_succ])
  refine wpAnyH_take (i := 35) (oi := ({ dst := some 91, op := Go.Op.pick (Go.Operand.tmp 87) (Go.Operand.tmp 90) (Go.Operand.const (Go.Value.bool false)), type := 4, pos := "law.go:31", after := #[{ on := 31, ground := Go.Ground.data }, { on := 34, ground := Go.Ground.data }], guard := none } : Go.Oper)) (v := ?v27) rfl (by kernel_rfl) (by kernel_rfl) (by kernel_rfl) (fun _ _ _ h => h) (Or.inl ⟨by rfl, ?hy27⟩) (by assumption) ?rest27
  case hy27 => (intro w hSw; (try dsimp only at hSw); go_simp; (try with_reducible rfl))
  (try simp only [Act.put, List.getElem_toArray, List.getElem_cons_zero, List.getElem_cons_succ, List.setIfInBounds_toArray, List.set_cons_zero, List.set_cons_succ])
  refine wpAnyH_take (i := 36) (oi := ({ dst := some 92, op := Go.Op.move (Go.Operand.tmp 91), type := 4, pos := "law.go:31", after := #[{ on := 35, ground := Go.Ground.data }, { on := 34, ground := Go.Ground.chain }], guard := none } : Go.Oper)) (v := ?v28) rfl (by kernel_rfl) (by kernel_rfl) (by kernel_rfl) (fun _ _ _ h => h) (Or.inl ⟨by rfl, ?hy28⟩) (by assumption) ?rest28
  case hy28 => (intro w hSw; (try dsimp only at hSw); go_simp; (try with_reducible rfl))
  (try simp only [Act.put, List.getElem_toArray, List.getElem_cons_zero, List.getElem_cons_succ, List.setIfInBounds_toArray, List.set_cons_zero, List.set_cons_succ])
  refine wpAnyH_take (i := 37) (oi := ({ dst := some 93, op := Go.Op.move (Go.Operand.tmp 14), type := 29, pos := "law.go:31", after := #[{ on := 36, ground := Go.Ground.guard }], guard := some (36, true) } : Go.Oper)) (v := ?v29) rfl (by kernel_rfl) (by kernel_rfl) (by kernel_rfl) (fun _ _ _ h => h) (Or.inl ⟨by rfl, ?hy29⟩) (by assumption) ?rest29
  case hy29 => (intro w hSw; (try dsimp only at hSw); go_simp; (try with_reducible rfl))
  (try simp only [Act.put, List.getElem_toArray, List.getElem_cons_zero, List.getElem_cons_succ, List.setIfInBounds_toArray, List.set_cons_zero, List.set_cons_succ])
  refine wpAnyH_ready (rs := [38]) (by kernel_rfl) (by simp) ?_
  refine AllReadyH.cons (o := ({ dst := some 94, op := Go.Op.call { callee := Go.Callee.value (Go.Operand.func 16), args := #[Go.Operand.tmp 93], argTypes := #[29] }, type := 3, pos := "law.go:31", after := #[{ on := 37, ground := Go.Ground.data }, { on := 36, ground := Go.Ground.chain }, { on := 36, ground := Go.Ground.guard }], guard := some (36, true) } : Go.Oper)) rfl (fun K hK => ?_) AllReadyH.nil
  go_simp; refine (num_any _ _).mono ?_; rintro e wn ⟨rfl, rfl⟩; (try (go_wp2_with fail))
  refine hK.out _ _ (by (try dsimp only); exact box4 HBX.out (by with_reducible (repeat (first | exact Ext.rfl_ _ | assumption | refine Ext.drew ?_ | refine Ext.drewN ?_ _ | refine Ext.alloc ?_ _ | refine Ext.trans ?_ (litWorld_ext _ _ _) | refine Ext.setCell ?_ (by first | (simp; done) | (simp; omega)) _ | refine Ext.trans ?_ (by assumption))))) (fun hHeld => ?_)
  clear hK K
  (try simp only [Act.put, List.getElem_toArray, List.getElem_cons_zero, List.getElem_cons_succ, List.setIfInBounds_toArray, List.set_cons_zero, List.set_cons_succ])
  refine wpAnyH_take (i := 39) (oi := ({ dst := some 95, op := Go.Op.binOp Go.BinOp.eql 3 (Go.Operand.tmp 94) (Go.Operand.const (Go.Value.int Go.IntKind.i64 6)) 3, type := 4, pos := "law.go:31", after := #[{ on := 38, ground := Go.Ground.data }, { on := 36, ground := Go.Ground.guard }], guard := some (36, true) } : Go.Oper)) (v := ?v30) rfl (by kernel_rfl) (by kernel_rfl) (by kernel_rfl) (fun _ _ _ h => h) (Or.inl ⟨by rfl, ?hy30⟩) (by assumption) ?rest30
  case hy30 => (intro w hSw; (try dsimp only at hSw); go_simp; (try with_reducible rfl))
  (try simp only [Act.put, List.getElem_toArray, List.getElem_cons_zero, List.getElem_cons_succ, List.setIfInBounds_toArray, List.set_cons_zero, List.set_cons_succ])
  refine wpAnyH_take (i := 40) (oi := ({ dst := some 96, op := Go.Op.pick (Go.Operand.tmp 92) (Go.Operand.tmp 95) (Go.Operand.const (Go.Value.bool false)), type := 4, pos := "law.go:31", after := #[{ on := 36, ground := Go.Ground.data }, { on := 39, ground := Go.Ground.data }], guard := none } : Go.Oper)) (v := ?v31) rfl (by kernel_rfl) (by kernel_rfl) (by kernel_rfl) (fun _ _ _ h => h) (Or.inl ⟨by rfl, ?hy31⟩) (by assumption) ?rest31
  case hy31 => (intro w hSw; (try dsimp only at hSw); go_simp; (try with_reducible rfl))
  (try simp only [Act.put, List.getElem_toArray, List.getElem_cons_zero, List.getElem_cons_succ, List.setIfInBounds_toArray, List.set_cons_zero, List.set_cons_succ])
  refine wpAnyH_take (i := 41) (oi := ({ dst := some 97, op := Go.Op.move (Go.Operand.tmp 96), type := 4, pos := "law.go:31", after := #[{ on := 40, ground := Go.Ground.data }, { on := 38, ground := Go.Ground.chain }], guard := none } : Go.Oper)) (v := ?v32) rfl (by kernel_rfl) (by kernel_rfl) (by kernel_rfl) (fun _ _ _ h => h) (Or.inl ⟨by rfl, ?hy32⟩) (by assumption) ?rest32
  case hy32 => (intro w hSw; (try dsimp only at hSw); go_simp; (try with_reducible rfl))
  (try simp only [Act.put, List.getElem_toArray, List.getElem_cons_zero, List.getElem_cons_succ, List.setIfInBounds_toArray, List.set_cons_zero, List.set_cons_succ])
  refine wpAnyH_take (i := 42) (oi := ({ dst := some 98, op := Go.Op.move (Go.Operand.tmp 1), type := 22, pos := "law.go:31", after := #[{ on := 41, ground := Go.Ground.guard }], guard := some (41, true) } : Go.Oper)) (v := ?v33) rfl (by kernel_rfl) (by kernel_rfl) (by kernel_rfl) (fun _ _ _ h => h) (Or.inl ⟨by rfl, ?hy33⟩) (by assumption) ?rest33
  case hy33 => (intro w hSw; (try dsimp only at hSw); go_simp; (try with_reducible rfl))
  (try simp only [Act.put, List.getElem_toArray, List.getElem_cons_zero, List.getElem_cons_succ, List.setIfInBounds_toArray, List.set_cons_zero, List.set_cons_succ])
  refine wpAnyH_ready (rs := [43]) (by kernel_rfl) (by simp) ?_
  refine AllReadyH.cons (o := ({ dst := some 99, op := Go.Op.buildSlice 22 3 #[(0, Go.Operand.const (Go.Value.int Go.IntKind.u8 97)), (1, Go.Operand.const (Go.Value.int Go.IntKind.u8 98)), (2, Go.Operand.const (Go.Value.int Go.IntKind.u8 0))], type := 22, pos := "law.go:31", after := #[{ on := 41, ground := Go.Ground.guard }], guard := some (41, true) } : Go.Oper)) rfl (fun K hK => ?_) AllReadyH.nil
  go_simp
  refine hK.out _ _ (by (try dsimp only); exact box4 HBX.out (by with_reducible (repeat (first | exact Ext.rfl_ _ | assumption | refine Ext.drew ?_ | refine Ext.drewN ?_ _ | refine Ext.alloc ?_ _ | refine Ext.trans ?_ (litWorld_ext _ _ _) | refine Ext.setCell ?_ (by first | (simp; done) | (simp; omega)) _ | refine Ext.trans ?_ (by assumption))))) (fun hHeld => ?_)
  clear hK K
  (try simp only [Act.put, List.getElem_toArray, List.getElem_cons_zero, List.getElem_cons_succ, List.setIfInBounds_toArray, List.set_cons_zero, List.set_cons_succ])
  refine wpAnyH_ready (rs := [44]) (by kernel_rfl) (by simp) ?_
  refine AllReadyH.cons (o := ({ dst := some 100, op := Go.Op.convert 22 22 (Go.Operand.tmp 99), type := 22, pos := "law.go:31", after := #[{ on := 43, ground := Go.Ground.data }, { on := 41, ground := Go.Ground.guard }], guard := some (41, true) } : Go.Oper)) rfl (fun K hK => ?_) AllReadyH.nil
  go_simp
  refine hK.out _ _ (by (try dsimp only); exact box4 HBX.out (by with_reducible (repeat (first | exact Ext.rfl_ _ | assumption | refine Ext.drew ?_ | refine Ext.drewN ?_ _ | refine Ext.alloc ?_ _ | refine Ext.trans ?_ (litWorld_ext _ _ _) | refine Ext.setCell ?_ (by first | (simp; done) | (simp; omega)) _ | refine Ext.trans ?_ (by assumption))))) (fun hHeld => ?_)
  clear hK K
  (try simp only [Act.put, List.getElem_toArray, List.getElem_cons_zero, List.getElem_cons_succ, List.setIfInBounds_toArray, List.set_cons_zero, List.set_cons_succ])
  refine wpAnyH_ready (rs := [45]) (by kernel_rfl) (by simp) ?_
  refine AllReadyH.cons (o := ({ dst := some 101, op := Go.Op.call { callee := Go.Callee.value (Go.Operand.func 20), args := #[Go.Operand.tmp 98, Go.Operand.tmp 100], argTypes := #[22, 22] }, type := 44, pos := "law.go:31", after := #[{ on := 42, ground := Go.Ground.data }, { on := 44, ground := Go.Ground.data }, { on := 41, ground := Go.Ground.chain }, { on := 41, ground := Go.Ground.guard }], guard := some (41, true) } : Go.Oper)) rfl (fun K hK => ?_) AllReadyH.nil
  go_simp; refine (bfrom_any A3 19 c3 (some ⟨we.heap.size, 0, none⟩) 3 3 _).mono ?_; rintro e wf ⟨rfl, hwf⟩; have xef : Ext we wf := (by rw [hwf]; exact (by with_reducible (repeat (first | exact Ext.rfl_ _ | assumption | refine Ext.drew ?_ | refine Ext.drewN ?_ _ | refine Ext.alloc ?_ _ | refine Ext.trans ?_ (litWorld_ext _ _ _) | refine Ext.setCell ?_ (by first | (simp; done) | (simp; omega)) _ | refine Ext.trans ?_ (by assumption))))); have HWF := Lib.hid hwf; clear hwf; (try (go_wp2_with fail))
  refine hK.out _ _ (by (try dsimp only); exact box4 HBX.out (by with_reducible (repeat (first | exact Ext.rfl_ _ | assumption | refine Ext.drew ?_ | refine Ext.drewN ?_ _ | refine Ext.alloc ?_ _ | refine Ext.trans ?_ (litWorld_ext _ _ _) | refine Ext.setCell ?_ (by first | (simp; done) | (simp; omega)) _ | refine Ext.trans ?_ (by assumption))))) (fun hHeld => ?_)
  clear hK K
  (try simp only [Act.put, List.getElem_toArray, List.getElem_cons_zero, List.getElem_cons_succ, List.setIfInBounds_toArray, List.set_cons_zero, List.set_cons_succ])
  refine wpAnyH_ready (rs := [46]) (by kernel_rfl) (by simp) ?_
  refine AllReadyH.cons (o := ({ dst := some 102, op := Go.Op.call { callee := Go.Callee.value (Go.Operand.func 30), args := #[Go.Operand.const (Go.Value.string { data := #[97, 99] }), Go.Operand.const (Go.Value.int Go.IntKind.i64 3)], argTypes := #[9, 2] }, type := 28, pos := "law.go:31", after := #[{ on := 45, ground := Go.Ground.chain }, { on := 41, ground := Go.Ground.guard }], guard := some (41, true) } : Go.Oper)) rfl (fun K hK => ?_) AllReadyH.nil
  go_simp; refine (ldel_any [97, 99] 3 _ (by decide)).mono ?_; rintro e wg ⟨ug, rfl, hug, hwg⟩; obtain ⟨Ag, ng, cg, Bg, mg, dg, rfl, _⟩ := id hug; (try (go_wp2_with fail))
  refine hK.out _ _ (by (try dsimp only); exact box4 HBX.out (by with_reducible (repeat (first | exact Ext.rfl_ _ | assumption | refine Ext.drew ?_ | refine Ext.drewN ?_ _ | refine Ext.alloc ?_ _ | refine Ext.trans ?_ (litWorld_ext _ _ _) | refine Ext.setCell ?_ (by first | (simp; done) | (simp; omega)) _ | refine Ext.trans ?_ (by assumption))))) (fun hHeld => ?_)
  clear hK K
  (try simp only [Act.put, List.getElem_toArray, List.getElem_cons_zero, List.getElem_cons_succ, List.setIfInBounds_toArray, List.set_cons_zero, List.set_cons_succ])
  refine wpAnyH_ready (rs := [47]) (by kernel_rfl) (by simp) ?_
  refine AllReadyH.cons (o := ({ dst := some 103, op := Go.Op.buildSlice 37 1 #[(0, Go.Operand.tmp 102)], type := 37, pos := "law.go:31", after := #[{ on := 46, ground := Go.Ground.data }, { on := 41, ground := Go.Ground.guard }], guard := some (41, true) } : Go.Oper)) rfl (fun K hK => ?_) AllReadyH.nil
  go_simp
  refine hK.out _ _ (by (try dsimp only); exact box4 HBX.out (by with_reducible (repeat (first | exact Ext.rfl_ _ | assumption | refine Ext.drew ?_ | refine Ext.drewN ?_ _ | refine Ext.alloc ?_ _ | refine Ext.trans ?_ (litWorld_ext _ _ _) | refine Ext.setCell ?_ (by first | (simp; done) | (simp; omega)) _ | refine Ext.trans ?_ (by assumption))))) (fun hHeld => ?_)
  clear hK K
  (try simp only [Act.put, List.getElem_toArray, List.getElem_cons_zero, List.getElem_cons_succ, List.setIfInBounds_toArray, List.set_cons_zero, List.set_cons_succ])
  refine wpAnyH_ready (rs := [48]) (by kernel_rfl) (by simp) ?_
  refine AllReadyH.cons (o := ({ dst := some 104, op := Go.Op.call { callee := Go.Callee.value (Go.Operand.func 19), args := #[Go.Operand.tmp 101, Go.Operand.tmp 103, Go.Operand.const (Go.Value.int Go.IntKind.i64 0)], argTypes := #[44, 37, 3] }, type := 4, pos := "law.go:31", after := #[{ on := 45, ground := Go.Ground.data }, { on := 47, ground := Go.Ground.data }, { on := 46, ground := Go.Ground.chain }, { on := 41, ground := Go.Ground.guard }], guard := some (41, true) } : Go.Oper)) rfl (fun K hK => ?_) AllReadyH.nil
  go_simp; refine (goesB_any _ _ A3 19 c3 kB (some ⟨we.heap.size, 0, none⟩) 3 3 [97, 98, 0] (some ⟨wg.heap.size, 0, none⟩) 1 1 0 (litWorld we 5 #[.int .u8 97, .int .u8 98, .int .u8 0]) _ (R3b.out.ext (X3X.out.trans (by with_reducible (repeat (first | exact Ext.rfl_ _ | assumption | refine Ext.drew ?_ | refine Ext.drewN ?_ _ | refine Ext.alloc ?_ _ | refine Ext.trans ?_ (litWorld_ext _ _ _) | refine Ext.setCell ?_ (by first | (simp; done) | (simp; omega)) _ | refine Ext.trans ?_ (by assumption)))))) l3 (by decide) (lit3 we 5 97 98 0) ?_ ?_ ?_ ?_).mono ?_; exact Ext.trans (show Ext _ wf by rw [HWF.out]; exact (by with_reducible (repeat (first | exact Ext.rfl_ _ | assumption | refine Ext.drew ?_ | refine Ext.drewN ?_ _ | refine Ext.alloc ?_ _ | refine Ext.trans ?_ (by assumption))))) (by with_reducible (repeat (first | exact Ext.rfl_ _ | assumption | refine Ext.drew ?_ | refine Ext.drewN ?_ _ | refine Ext.alloc ?_ _ | refine Ext.trans ?_ (litWorld_ext _ _ _) | refine Ext.setCell ?_ (by first | (simp; done) | (simp; omega)) _ | refine Ext.trans ?_ (by assumption)))); exact Ext.keeps (show Ext wf _ from (by with_reducible (repeat (first | exact Ext.rfl_ _ | assumption | refine Ext.drew ?_ | refine Ext.drewN ?_ _ | refine Ext.alloc ?_ _ | refine Ext.trans ?_ (litWorld_ext _ _ _) | refine Ext.setCell ?_ (by first | (simp; done) | (simp; omega)) _ | refine Ext.trans ?_ (by assumption))))) _ _ _ (by rw [HWF.out]; exact (from_cells _ _ _ _ _ _ _).1); exact Ext.keeps (show Ext wf _ from (by with_reducible (repeat (first | exact Ext.rfl_ _ | assumption | refine Ext.drew ?_ | refine Ext.drewN ?_ _ | refine Ext.alloc ?_ _ | refine Ext.trans ?_ (litWorld_ext _ _ _) | refine Ext.setCell ?_ (by first | (simp; done) | (simp; omega)) _ | refine Ext.trans ?_ (by assumption))))) _ _ _ (by rw [HWF.out]; exact (from_cells _ _ _ _ _ _ _).2); rw [k89]; exact rdl_row (w := wg) 28 (hs := [⟨Ag, ng, cg, Bg, mg, dg⟩]) (xs := [d3]) rfl (by decide) (by intro k i1 i2; obtain rfl : k = 0 := (by simp at i2; exact i2); exact hug); rintro e wh ⟨rfl, hwh⟩; (try (go_wp2_with fail))
  refine hK.out _ _ (by (try dsimp only); exact box4 HBX.out (by with_reducible (repeat (first | exact Ext.rfl_ _ | assumption | refine Ext.drew ?_ | refine Ext.drewN ?_ _ | refine Ext.alloc ?_ _ | refine Ext.trans ?_ (litWorld_ext _ _ _) | refine Ext.setCell ?_ (by first | (simp; done) | (simp; omega)) _ | refine Ext.trans ?_ (by assumption))))) (fun hHeld => ?_)
  clear hK K
  (try simp only [Act.put, List.getElem_toArray, List.getElem_cons_zero, List.getElem_cons_succ, List.setIfInBounds_toArray, List.set_cons_zero, List.set_cons_succ])
  refine wpAnyH_take (i := 49) (oi := ({ dst := some 105, op := Go.Op.pick (Go.Operand.tmp 97) (Go.Operand.tmp 104) (Go.Operand.const (Go.Value.bool false)), type := 4, pos := "law.go:31", after := #[{ on := 41, ground := Go.Ground.data }, { on := 48, ground := Go.Ground.data }], guard := none } : Go.Oper)) (v := ?v34) rfl (by kernel_rfl) (by kernel_rfl) (by kernel_rfl) (fun _ _ _ h => h) (Or.inl ⟨by rfl, ?hy34⟩) (by assumption) ?rest34
  case hy34 => (intro w hSw; (try dsimp only at hSw); go_simp; (try with_reducible rfl))
  (try simp only [Act.put, List.getElem_toArray, List.getElem_cons_zero, List.getElem_cons_succ, List.setIfInBounds_toArray, List.set_cons_zero, List.set_cons_succ])
  refine wpAnyH_take (i := 50) (oi := ({ dst := some 0, op := Go.Op.assign (Go.Operand.tmp 105), type := 4, pos := "law.go:31", after := #[{ on := 49, ground := Go.Ground.data }, { on := 48, ground := Go.Ground.chain }, { on := 0, ground := Go.Ground.phase }, { on := 1, ground := Go.Ground.phase }, { on := 2, ground := Go.Ground.phase }, { on := 3, ground := Go.Ground.phase }, { on := 4, ground := Go.Ground.phase }, { on := 5, ground := Go.Ground.phase }, { on := 6, ground := Go.Ground.phase }, { on := 7, ground := Go.Ground.phase }, { on := 8, ground := Go.Ground.phase }, { on := 9, ground := Go.Ground.phase }, { on := 10, ground := Go.Ground.phase }, { on := 11, ground := Go.Ground.phase }, { on := 12, ground := Go.Ground.phase }, { on := 13, ground := Go.Ground.phase }, { on := 14, ground := Go.Ground.phase }, { on := 15, ground := Go.Ground.phase }, { on := 16, ground := Go.Ground.phase }, { on := 17, ground := Go.Ground.phase }, { on := 18, ground := Go.Ground.phase }, { on := 19, ground := Go.Ground.phase }, { on := 20, ground := Go.Ground.phase }, { on := 21, ground := Go.Ground.phase }, { on := 22, ground := Go.Ground.phase }, { on := 23, ground := Go.Ground.phase }, { on := 24, ground := Go.Ground.phase }, { on := 25, ground := Go.Ground.phase }, { on := 26, ground := Go.Ground.phase }, { on := 27, ground := Go.Ground.phase }, { on := 28, ground := Go.Ground.phase }, { on := 29, ground := Go.Ground.phase }, { on := 30, ground := Go.Ground.phase }, { on := 31, ground := Go.Ground.phase }, { on := 32, ground := Go.Ground.phase }, { on := 33, ground := Go.Ground.phase }, { on := 34, ground := Go.Ground.phase }, { on := 35, ground := Go.Ground.phase }, { on := 36, ground := Go.Ground.phase }, { on := 37, ground := Go.Ground.phase }, { on := 38, ground := Go.Ground.phase }, { on := 39, ground := Go.Ground.phase }, { on := 40, ground := Go.Ground.phase }, { on := 41, ground := Go.Ground.phase }, { on := 42, ground := Go.Ground.phase }, { on := 43, ground := Go.Ground.phase }, { on := 44, ground := Go.Ground.phase }, { on := 45, ground := Go.Ground.phase }, { on := 46, ground := Go.Ground.phase }, { on := 47, ground := Go.Ground.phase }, { on := 48, ground := Go.Ground.phase }, { on := 49, ground := Go.Ground.phase }], guard := none } : Go.Oper)) (v := ?v35) rfl (by kernel_rfl) (by kernel_rfl) (by kernel_rfl) (fun _ _ _ h => h) (Or.inl ⟨by rfl, ?hy35⟩) (by assumption) ?rest35
  case hy35 => (intro w hSw; (try dsimp only at hSw); go_simp; (try with_reducible rfl))
  (try simp only [Act.put, List.getElem_toArray, List.getElem_cons_zero, List.getElem_cons_succ, List.setIfInBounds_toArray, List.set_cons_zero, List.set_cons_succ])
  refine wpAnyH_done (by kernel_rfl) ?_ _
  all_goals
    go_wp2
    go_ret
    exact ⟨rfl, XW.trans (by with_reducible (repeat (first | exact Ext.rfl_ _ | assumption | refine Ext.drew ?_ | refine Ext.drewN ?_ _ | refine Ext.alloc ?_ _ | refine Ext.trans ?_ (litWorld_ext _ _ _) | refine Ext.setCell ?_ (by first | (simp; done) | (simp; omega)) _ | refine Ext.trans ?_ (by assumption))))⟩
end Go.Proofs.Ythfhococglbpoaa
