/- Contracts of the block's writer and of the closure that it hands out. Conditions: the entry may be; the box holds the key before. -/
import Derived.Test.YthfhococglbpoaaBlkA
import Derived.Test.YthfhococglbpoaaKeyC
import Derived.Test.YthfhococglbpoaaSkM
namespace Go.Proofs.Ythfhococglbpoaa
set_option linter.unusedSimpArgs false
set_option linter.unusedVariables false
open Go.RowKit

theorem RdBB.new4 {w : World} {t : TypeId} {A0 A1 A2 A3 : Option Addr} {n0 n1 n2 n3 c0 c1 c2 c3 : Nat} {x0 x1 x2 x3 : Bs} (h0 : Rd w A0 n0 x0) (h1 : Rd w A1 n1 x1) (h2 : Rd w A2 n2 x2) (h3 : Rd w A3 n3 x3) :
    RdBB (w.alloc (.cells #[.slice A0 n0 c0, .slice A1 n1 c1, .slice A2 n2 c2, .slice A3 n3 c3] t)) (some ⟨w.heap.size, 0, none⟩) 4 [x0, x1, x2, x3] := by
  have hb := heap_alloc_new w (.cells #[.slice A0 n0 c0, .slice A1 n1 c1, .slice A2 n2 c2, .slice A3 n3 c3] t)
  have ha := Ext.alloc (Ext.rfl_ w) (.cells #[.slice A0 n0 c0, .slice A1 n1 c1, .slice A2 n2 c2, .slice A3 n3 c3] t)
  refine ⟨rfl, fun _ => ⟨w.heap.size, 0, rfl, fun j hj => ?_⟩⟩
  match j, hj with
  | 0, _ => exact ⟨A0, n0, c0, by unfold World.cell?; simp only [hb]; rfl, h0.ext ha⟩
  | 1, _ => exact ⟨A1, n1, c1, by unfold World.cell?; simp only [hb]; rfl, h1.ext ha⟩
  | 2, _ => exact ⟨A2, n2, c2, by unfold World.cell?; simp only [hb]; rfl, h2.ext ha⟩
  | 3, _ => exact ⟨A3, n3, c3, by unfold World.cell?; simp only [hb]; rfl, h3.ext ha⟩

/-- The writer's box: the key before. -/
def WBox (w0 w : World) (g : Nat) (p : Bs) : Prop := ∃ B m d, w.heap[g]? = some (.cells #[.slice B m d] 22 (0, 0)) ∧ Rd w0 B m p ∧ m ≤ d ∧ m ≤ 65536

theorem setAlloc {w : World} {g : Nat} (hg : g < w.heap.size) {v : Value} {o : Obj} : (w.alloc o).setCell ⟨g, 0, none⟩ v = (w.setCell ⟨g, 0, none⟩ v).alloc o := by
  rw [World.setCell_alloc_past o g 0 v hg]
theorem blkE_put {p : Bs} {r : Bool} {e : Ent} {k : Nat} (hk : (if r then 0 else shr p e.key) = k) (h : e.kind = 1) : blkE p r e = [[numB k, bytB (e.key.drop k), numB e.seq.toNat, numB e.kind.toNat].flatten, bytB e.val].flatten := by
  unfold blkE
  rw [hk, if_pos h]
  simp [List.append_assoc]
theorem blkE_del {p : Bs} {r : Bool} {e : Ent} {k : Nat} (hk : (if r then 0 else shr p e.key) = k) (h : ¬ e.kind = 1) : blkE p r e = [numB k, bytB (e.key.drop k), numB e.seq.toNat, numB e.kind.toNat].flatten := by
  unfold blkE
  rw [hk, if_neg h]
  simp [List.append_assoc]
theorem wrA {w0 w w1 wA : World} {g : Nat} {K B : Option Addr} {n c m d : Nat} {o : Obj} (h : wA = w1.setCell ⟨g, 0, none⟩ (.slice K n c)) (h0 : Ext w0 w) (hg0 : w0.heap.size ≤ g) (hg : w.heap[g]? = some (.cells #[.slice B m d] 22 (0, 0))) (hb : (w.alloc o).heap[w.heap.size]? = some o) (h1 : Ext (w.alloc o) w1) :
    Ext w0 wA ∧ Hid (Chg g w wA) ∧ Hid (wA.heap[w.heap.size]? = some o) ∧ Hid (wA.heap[g]? = some (.cells #[.slice K n c] 22 (0, 0))) := by
  subst h
  have x1 : Ext w w1 := (Ext.alloc (Ext.rfl_ w) o).trans h1
  have hgw : g < w.heap.size := (Array.getElem?_eq_some_iff.1 hg).1
  refine ⟨(h0.trans x1).setCell hg0 _, Lib.hid ((Chg.of_ext x1).setCell 0 _), Lib.hid ?_, Lib.hid ?_⟩
  · have := h1.blk hb
    simp [World.setCell, Array.getElem?_modify, this]
    omega
  · have := x1.blk hg
    simp [World.setCell, Array.getElem?_modify, this]

set_option maxRecDepth 100000 in
set_option maxHeartbeats 4000000 in
theorem writer1_any (u : Value) (x : Ent) (r : Bool) (g : Nat) (p : Bs) (w0 w : World) (h0 : Ext w0 w) (hg0 : w0.heap.size ≤ g) (hbx : WBox w0 w g p) (hx : RdE w0 u x) (hm : mayE x = true) :
    Calls Try.prog 69 #[u, .bool r, .pointer (some ⟨g, 0, none⟩)] w fun e w' => ∃ v', e = .returned v' ∧ OwnB w' w.heap.size v' (blkE p r x) ∧ WBox w0 w' g x.key ∧ Chg g w w' := by
  have hM := mayE_iff.1 hm
  obtain ⟨A, n, c, A', n', c', rfl, hx1, hx2, hnc, h2, hnc', h4⟩ := hx
  obtain ⟨B, m, d, hg, hp, hmd, hm16⟩ := hbx
  have e1 := hx1.1
  have e2 := hx2.1
  have hb := blk1 w (.cells #[.slice A n c, .int .i64 x.seq, .int .i64 x.kind, .slice A' n' c'] 28)
  have hbox := Lib.hid hb
  clear hb
  have hl0 : 1 ≤ n := by rw [← e1]; exact hM.1
  have hl1 : n ≤ 32 := by rw [← e1]; exact hM.2.1
  have hs1 : 1 ≤ x.seq := hM.2.2.1
  have hs2 : x.seq ≤ 2147483647 := hM.2.2.2.1
  have hl2 : n' ≤ 65536 := by rw [← e2]; exact hM.2.2.2.2.1
  have hk12 : x.kind = 1 ∨ x.kind = 2 := hM.2.2.2.2.2.imp id (fun h => h.1)
  have hk1 : 1 ≤ x.kind := by omega
  have hk2 : x.kind ≤ 2 := by omega
  clear hM
  have hsl := shr_le p x.key
  have j2 := numB_length x.seq.toNat
  have j3 := numB_length x.kind.toNat
  have j4 : (bytB x.val).length ≤ 65546 := by unfold bytB; have := numB_length x.val.length; simp; omega
  have hq1 : IntKind.u64.wrap x.seq = x.seq := by rw [IntKind.wrap_u64]; omega
  have hq2 : IntKind.u64.wrap x.kind = x.kind := by rw [IntKind.wrap_u64]; omega
  have HK := Lib.hid hk12
  have KX := Lib.hid hx1
  have KY := Lib.hid hx2
  have KP := Lib.hid hp
  have H0 := Lib.hid h0
  have HG := Lib.hid hg
  have E1 := Lib.hid e1
  clear hk12 e1 e2 hx1 hx2 hp hm
  obtain ⟨b, o, rfl, _⟩ := KX.out.at_ (by omega)
  have hgw : g < w.heap.size := (Array.getElem?_eq_some_iff.1 hg).1
  have hcg : (w.alloc (.cells #[.slice (some ⟨b, o, none⟩) n c, .int .i64 x.seq, .int .i64 x.kind, .slice A' n' c'] 28)).cell? ⟨g, 0, none⟩ = some (.slice B m d) := by
    have := (Ext.alloc (Ext.rfl_ w) (.cells #[.slice (some ⟨b, o, none⟩) n c, .int .i64 x.seq, .int .i64 x.kind, .slice A' n' c'] 28)).blk hg
    simp [World.cell?, this]
  have hfg : (w.alloc (.cells #[.slice (some ⟨b, o, none⟩) n c, .int .i64 x.seq, .int .i64 x.kind, .slice A' n' c'] 28)).frozen? ⟨g, 0, none⟩ = false := by
    have := (Ext.alloc (Ext.rfl_ w) (.cells #[.slice (some ⟨b, o, none⟩) n c, .int .i64 x.seq, .int .i64 x.kind, .slice A' n' c'] 28)).blk hg
    simp [World.frozen?, this]
  have hG1 := (Ext.alloc (Ext.rfl_ w) (.cells #[.slice (some ⟨b, o, none⟩) n c, .int .i64 x.seq, .int .i64 x.kind, .slice A' n' c'] 28)).blk hg
  clear hg
  obtain ⟨s0, s1, s2, s3, z0, z1, z2, z3⟩ := box4 hbox.out (Ext.rfl_ _)
  cases r with
  | true =>
    have j1 : (bytB (x.key.drop 0)).length ≤ 42 := by unfold bytB; have := numB_length (x.key.drop 0).length; have := E1.out; simp at *; omega
    have j0 := numB_length (0 : Int).toNat
    have hsum1 : ([numB (0 : Int).toNat, bytB (x.key.drop 0), numB x.seq.toNat, numB x.kind.toNat].flatten).length ≤ 72 := by simp at *; omega
    go_enter Try.func69, Try.ntmps69
    go_wp2_with fail
    obtain ⟨wA, hwA⟩ : ∃ wA, wA = (w.setCell ⟨g, 0, none⟩ (.slice (some ⟨b, o, none⟩) n c)).alloc (.cells #[.slice (some ⟨b, o, none⟩) n c, .int .i64 x.seq, .int .i64 x.kind, .slice A' n' c'] 28) := ⟨_, rfl⟩
    rw [← hwA]
    rw [← setAlloc hgw] at hwA
    obtain ⟨X0A, CA, HBX, HGA⟩ := wrA (w1 := w.alloc (.cells #[.slice (some ⟨b, o, none⟩) n c, .int .i64 x.seq, .int .i64 x.kind, .slice A' n' c'] 28)) hwA H0.out hg0 HG.out hbox.out (Ext.rfl_ _)
    have BA : w.heap.size ≤ wA.heap.size := CA.out.size
    clear hwA hbox hcg hfg s0 s1 s2 s3 z0 z1 z2 z3 H0 HG
    have KD : Rd w0 (some ⟨b, o, none⟩) n (x.key.drop 0) := by simpa using KX.out
    obtain ⟨g0, g1, g2, g3, f0, f1, f2, f3⟩ := box4 HBX.out (Ext.rfl_ _)

    refine wp_region_held_drew (S := (fun w' => w'.cell? ⟨w.heap.size, 0, none⟩ = some (.slice (some ⟨b, o, none⟩) n c) ∧ w'.cell? ⟨w.heap.size, 1, none⟩ = some (.int .i64 x.seq) ∧ w'.cell? ⟨w.heap.size, 2, none⟩ = some (.int .i64 x.kind) ∧ w'.cell? ⟨w.heap.size, 3, none⟩ = some (.slice A' n' c') ∧ w'.frozen? ⟨w.heap.size, 0, none⟩ = false ∧ w'.frozen? ⟨w.heap.size, 1, none⟩ = false ∧ w'.frozen? ⟨w.heap.size, 2, none⟩ = false ∧ w'.frozen? ⟨w.heap.size, 3, none⟩ = false)) (by kernel_rfl) (by (try dsimp only); exact box4 HBX.out (by with_reducible (repeat (first | exact Ext.rfl_ _ | assumption | refine Ext.drew ?_ | refine Ext.drewN ?_ _ | refine Ext.alloc ?_ _ | refine Ext.trans ?_ (by assumption))))) (fun hHeld => ?_)
    refine wpAnyH_take (i := 0) (oi := ({ dst := some 16, op := Go.Op.move (Go.Operand.tmp 6), type := 3, pos := "block.go:40", after := #[], guard := none } : Go.Oper)) (v := ?v1) rfl (by kernel_rfl) (by kernel_rfl) (by kernel_rfl) (fun _ _ _ h => h) (Or.inl ⟨by rfl, ?hy1⟩) (by assumption) ?rest1
    case hy1 => (intro w hSw; (try dsimp only at hSw); go_simp; (try with_reducible rfl))
    (try simp only [Act.put, List.getElem_toArray, List.getElem_cons_zero, List.getElem_cons_succ, List.setIfInBounds_toArray, List.set_cons_zero, List.set_cons_succ])
    refine wpAnyH_take (i := 1) (oi := ({ dst := some 17, op := Go.Op.convert 3 84 (Go.Operand.tmp 16), type := 84, pos := "block.go:40", after := #[{ on := 0, ground := Go.Ground.data }], guard := none } : Go.Oper)) (v := ?v2) rfl (by kernel_rfl) (by kernel_rfl) (by kernel_rfl) (fun _ _ _ h => h) (Or.inl ⟨by rfl, ?hy2⟩) (by assumption) ?rest2
    case hy2 => (intro w hSw; (try dsimp only at hSw); go_simp; (try with_reducible rfl))
    (try simp only [Act.put, List.getElem_toArray, List.getElem_cons_zero, List.getElem_cons_succ, List.setIfInBounds_toArray, List.set_cons_zero, List.set_cons_succ])
    refine wpAnyH_take (i := 3) (oi := ({ dst := some 19, op := Go.Op.fieldAddr 28 (Go.Operand.tmp 3) 0, type := 0, pos := "block.go:40", after := #[], guard := none } : Go.Oper)) (v := ?v3) rfl (by kernel_rfl) (by kernel_rfl) (by kernel_rfl) (fun _ _ _ h => h) (Or.inl ⟨by rfl, ?hy3⟩) (by assumption) ?rest3
    case hy3 => (intro w hSw; (try dsimp only at hSw); go_simp; (try with_reducible rfl))
    (try simp only [Act.put, List.getElem_toArray, List.getElem_cons_zero, List.getElem_cons_succ, List.setIfInBounds_toArray, List.set_cons_zero, List.set_cons_succ])
    refine wpAnyH_take (i := 4) (oi := ({ dst := some 20, op := Go.Op.load 22 (Go.Operand.tmp 19), type := 22, pos := "block.go:40", after := #[{ on := 3, ground := Go.Ground.data }], guard := none } : Go.Oper)) (v := ?v4) rfl (by kernel_rfl) (by kernel_rfl) (by kernel_rfl) (fun _ _ _ h => h) (Or.inl ⟨by rfl, ?hy4⟩) (by assumption) ?rest4
    case hy4 => (intro w hSw; (try dsimp only at hSw); go_simp; (try with_reducible rfl))
    (try simp only [Act.put, List.getElem_toArray, List.getElem_cons_zero, List.getElem_cons_succ, List.setIfInBounds_toArray, List.set_cons_zero, List.set_cons_succ])
    refine wpAnyH_take (i := 5) (oi := ({ dst := some 21, op := Go.Op.move (Go.Operand.tmp 6), type := 3, pos := "block.go:40", after := #[], guard := none } : Go.Oper)) (v := ?v5) rfl (by kernel_rfl) (by kernel_rfl) (by kernel_rfl) (fun _ _ _ h => h) (Or.inl ⟨by rfl, ?hy5⟩) (by assumption) ?rest5
    case hy5 => (intro w hSw; (try dsimp only at hSw); go_simp; (try with_reducible rfl))
    (try simp only [Act.put, List.getElem_toArray, List.getElem_cons_zero, List.getElem_cons_succ, List.setIfInBounds_toArray, List.set_cons_zero, List.set_cons_succ])
    refine wpAnyH_take (i := 6) (oi := ({ dst := some 22, op := Go.Op.slice 22 (Go.Operand.tmp 20) (some (Go.Operand.tmp 21)) none none, type := 22, pos := "block.go:40", after := #[{ on := 4, ground := Go.Ground.data }, { on := 5, ground := Go.Ground.data }], guard := none } : Go.Oper)) (v := ?v6) rfl (by kernel_rfl) (by kernel_rfl) (by kernel_rfl) (fun _ _ _ h => h) (Or.inl ⟨by rfl, ?hy6⟩) (by assumption) ?rest6
    case hy6 => (intro w hSw; (try dsimp only at hSw); go_simp; (try with_reducible rfl))
    (try simp only [Act.put, List.getElem_toArray, List.getElem_cons_zero, List.getElem_cons_succ, List.setIfInBounds_toArray, List.set_cons_zero, List.set_cons_succ])
    refine wpAnyH_take (i := 8) (oi := ({ dst := some 24, op := Go.Op.fieldAddr 28 (Go.Operand.tmp 3) 1, type := 0, pos := "block.go:40", after := #[], guard := none } : Go.Oper)) (v := ?v7) rfl (by kernel_rfl) (by kernel_rfl) (by kernel_rfl) (fun _ _ _ h => h) (Or.inl ⟨by rfl, ?hy7⟩) (by assumption) ?rest7
    case hy7 => (intro w hSw; (try dsimp only at hSw); go_simp; (try with_reducible rfl))
    (try simp only [Act.put, List.getElem_toArray, List.getElem_cons_zero, List.getElem_cons_succ, List.setIfInBounds_toArray, List.set_cons_zero, List.set_cons_succ])
    refine wpAnyH_take (i := 9) (oi := ({ dst := some 25, op := Go.Op.load 2 (Go.Operand.tmp 24), type := 2, pos := "block.go:40", after := #[{ on := 8, ground := Go.Ground.data }], guard := none } : Go.Oper)) (v := ?v8) rfl (by kernel_rfl) (by kernel_rfl) (by kernel_rfl) (fun _ _ _ h => h) (Or.inl ⟨by rfl, ?hy8⟩) (by assumption) ?rest8
    case hy8 => (intro w hSw; (try dsimp only at hSw); go_simp; (try with_reducible rfl))
    (try simp only [Act.put, List.getElem_toArray, List.getElem_cons_zero, List.getElem_cons_succ, List.setIfInBounds_toArray, List.set_cons_zero, List.set_cons_succ])
    refine wpAnyH_take (i := 10) (oi := ({ dst := some 26, op := Go.Op.convert 2 84 (Go.Operand.tmp 25), type := 84, pos := "block.go:40", after := #[{ on := 9, ground := Go.Ground.data }], guard := none } : Go.Oper)) (v := ?v9) rfl (by kernel_rfl) (by kernel_rfl) (by kernel_rfl) (fun _ _ _ h => h) (Or.inl ⟨by rfl, ?hy9⟩) (by assumption) ?rest9
    case hy9 => (intro w hSw; (try dsimp only at hSw); go_simp; (try with_reducible rfl))
    (try simp only [Act.put, List.getElem_toArray, List.getElem_cons_zero, List.getElem_cons_succ, List.setIfInBounds_toArray, List.set_cons_zero, List.set_cons_succ])
    refine wpAnyH_take (i := 12) (oi := ({ dst := some 28, op := Go.Op.fieldAddr 28 (Go.Operand.tmp 3) 2, type := 0, pos := "block.go:40", after := #[], guard := none } : Go.Oper)) (v := ?v10) rfl (by kernel_rfl) (by kernel_rfl) (by kernel_rfl) (fun _ _ _ h => h) (Or.inl ⟨by rfl, ?hy10⟩) (by assumption) ?rest10
    case hy10 => (intro w hSw; (try dsimp only at hSw); go_simp; (try with_reducible rfl))
    (try simp only [Act.put, List.getElem_toArray, List.getElem_cons_zero, List.getElem_cons_succ, List.setIfInBounds_toArray, List.set_cons_zero, List.set_cons_succ])
    refine wpAnyH_take (i := 13) (oi := ({ dst := some 29, op := Go.Op.load 26 (Go.Operand.tmp 28), type := 26, pos := "block.go:40", after := #[{ on := 12, ground := Go.Ground.data }], guard := none } : Go.Oper)) (v := ?v11) rfl (by kernel_rfl) (by kernel_rfl) (by kernel_rfl) (fun _ _ _ h => h) (Or.inl ⟨by rfl, ?hy11⟩) (by assumption) ?rest11
    case hy11 => (intro w hSw; (try dsimp only at hSw); go_simp; (try with_reducible rfl))
    (try simp only [Act.put, List.getElem_toArray, List.getElem_cons_zero, List.getElem_cons_succ, List.setIfInBounds_toArray, List.set_cons_zero, List.set_cons_succ])
    refine wpAnyH_take (i := 14) (oi := ({ dst := some 30, op := Go.Op.convert 26 84 (Go.Operand.tmp 29), type := 84, pos := "block.go:40", after := #[{ on := 13, ground := Go.Ground.data }], guard := none } : Go.Oper)) (v := ?v12) rfl (by kernel_rfl) (by kernel_rfl) (by kernel_rfl) (fun _ _ _ h => h) (Or.inl ⟨by rfl, ?hy12⟩) (by assumption) ?rest12
    case hy12 => (intro w hSw; (try dsimp only at hSw); go_simp; (try with_reducible rfl))
    (try simp only [Act.put, List.getElem_toArray, List.getElem_cons_zero, List.getElem_cons_succ, List.setIfInBounds_toArray, List.set_cons_zero, List.set_cons_succ])
    refine wpAnyH_ready (rs := [2]) (by kernel_rfl) (by simp) ?_
    refine AllReadyH.cons (o := ({ dst := some 18, op := Go.Op.call { callee := Go.Callee.value (Go.Operand.func 71), args := #[Go.Operand.tmp 17], argTypes := #[84] }, type := 22, pos := "block.go:40", after := #[{ on := 1, ground := Go.Ground.data }], guard := none } : Go.Oper)) rfl (fun K hK => ?_) AllReadyH.nil
    go_simp
    (first | (go_at_call 72; refine (wbytes_any _ _ _ (x.key.drop 0) _ (KD.ext (X0A.trans (by with_reducible (repeat (first | exact Ext.rfl_ _ | assumption | refine Ext.drew ?_ | refine Ext.drewN ?_ _ | refine Ext.alloc ?_ _ | refine Ext.trans ?_ (by assumption)))))) (by unfold B40; omega)).mono ?_; rintro e w2 ⟨v2, rfl, o2, hw2⟩; obtain ⟨A2, n2, c2, rfl, l2, r2, i2⟩ := o2.formN) | (go_at_call_of 71 (Value.int .u64 x.seq); refine (number_z x.seq _ (by omega) (by omega)).mono ?_; rintro e w3 ⟨v3, rfl, o3, hw3⟩; obtain ⟨A3, n3, c3, rfl, l3, r3, i3⟩ := o3.formN) | (go_at_call_of 71 (Value.int .u64 x.kind); refine (number_z x.kind _ (by omega) (by omega)).mono ?_; rintro e w4 ⟨v4, rfl, o4, hw4⟩; obtain ⟨A4, n4, c4, rfl, l4, r4, i4⟩ := o4.formN) | (go_at_call 70; refine (join_any _ 4 4 [numB (0 : Int).toNat, bytB (x.key.drop 0), numB x.seq.toNat, numB x.kind.toNat] _ (RdBB.new4 (r1.ext (by with_reducible (repeat (first | exact Ext.rfl_ _ | assumption | refine Ext.drew ?_ | refine Ext.drewN ?_ _ | refine Ext.alloc ?_ _ | refine Ext.trans ?_ (by assumption))))) (r2.ext (by with_reducible (repeat (first | exact Ext.rfl_ _ | assumption | refine Ext.drew ?_ | refine Ext.drewN ?_ _ | refine Ext.alloc ?_ _ | refine Ext.trans ?_ (by assumption))))) (r3.ext (by with_reducible (repeat (first | exact Ext.rfl_ _ | assumption | refine Ext.drew ?_ | refine Ext.drewN ?_ _ | refine Ext.alloc ?_ _ | refine Ext.trans ?_ (by assumption))))) (r4.ext (by with_reducible (repeat (first | exact Ext.rfl_ _ | assumption | refine Ext.drew ?_ | refine Ext.drewN ?_ _ | refine Ext.alloc ?_ _ | refine Ext.trans ?_ (by assumption)))))) (by decide) (by unfold B47; omega)).mono ?_; rintro e w5 ⟨v5, rfl, o5, hw5⟩; obtain ⟨A5, n5, c5, rfl, l5, r5, i5⟩ := o5.formN) | (go_at_call 71; refine (number_z 0 _ (by omega) (by omega)).mono ?_; rintro e w1 ⟨v1, rfl, o1, hw1⟩; obtain ⟨A1, n1, c1, rfl, l1, r1, i1⟩ := o1.formN))
    (try (go_wp2_with fail))
    refine hK.out _ _ (by (try dsimp only); exact box4 HBX.out (by with_reducible (repeat (first | exact Ext.rfl_ _ | assumption | refine Ext.drew ?_ | refine Ext.drewN ?_ _ | refine Ext.alloc ?_ _ | refine Ext.trans ?_ (by assumption))))) (fun hHeld => ?_)
    clear hK K
    (try simp only [Act.put, List.getElem_toArray, List.getElem_cons_zero, List.getElem_cons_succ, List.setIfInBounds_toArray, List.set_cons_zero, List.set_cons_succ])
    refine wpAnyH_ready (rs := [7]) (by kernel_rfl) (by simp) ?_
    refine AllReadyH.cons (o := ({ dst := some 23, op := Go.Op.call { callee := Go.Callee.value (Go.Operand.func 72), args := #[Go.Operand.tmp 22], argTypes := #[22] }, type := 22, pos := "block.go:40", after := #[{ on := 6, ground := Go.Ground.data }, { on := 2, ground := Go.Ground.chain }], guard := none } : Go.Oper)) rfl (fun K hK => ?_) AllReadyH.nil
    go_simp
    (first | (go_at_call 72; refine (wbytes_any _ _ _ (x.key.drop 0) _ (KD.ext (X0A.trans (by with_reducible (repeat (first | exact Ext.rfl_ _ | assumption | refine Ext.drew ?_ | refine Ext.drewN ?_ _ | refine Ext.alloc ?_ _ | refine Ext.trans ?_ (by assumption)))))) (by unfold B40; omega)).mono ?_; rintro e w2 ⟨v2, rfl, o2, hw2⟩; obtain ⟨A2, n2, c2, rfl, l2, r2, i2⟩ := o2.formN) | (go_at_call_of 71 (Value.int .u64 x.seq); refine (number_z x.seq _ (by omega) (by omega)).mono ?_; rintro e w3 ⟨v3, rfl, o3, hw3⟩; obtain ⟨A3, n3, c3, rfl, l3, r3, i3⟩ := o3.formN) | (go_at_call_of 71 (Value.int .u64 x.kind); refine (number_z x.kind _ (by omega) (by omega)).mono ?_; rintro e w4 ⟨v4, rfl, o4, hw4⟩; obtain ⟨A4, n4, c4, rfl, l4, r4, i4⟩ := o4.formN) | (go_at_call 70; refine (join_any _ 4 4 [numB (0 : Int).toNat, bytB (x.key.drop 0), numB x.seq.toNat, numB x.kind.toNat] _ (RdBB.new4 (r1.ext (by with_reducible (repeat (first | exact Ext.rfl_ _ | assumption | refine Ext.drew ?_ | refine Ext.drewN ?_ _ | refine Ext.alloc ?_ _ | refine Ext.trans ?_ (by assumption))))) (r2.ext (by with_reducible (repeat (first | exact Ext.rfl_ _ | assumption | refine Ext.drew ?_ | refine Ext.drewN ?_ _ | refine Ext.alloc ?_ _ | refine Ext.trans ?_ (by assumption))))) (r3.ext (by with_reducible (repeat (first | exact Ext.rfl_ _ | assumption | refine Ext.drew ?_ | refine Ext.drewN ?_ _ | refine Ext.alloc ?_ _ | refine Ext.trans ?_ (by assumption))))) (r4.ext (by with_reducible (repeat (first | exact Ext.rfl_ _ | assumption | refine Ext.drew ?_ | refine Ext.drewN ?_ _ | refine Ext.alloc ?_ _ | refine Ext.trans ?_ (by assumption)))))) (by decide) (by unfold B47; omega)).mono ?_; rintro e w5 ⟨v5, rfl, o5, hw5⟩; obtain ⟨A5, n5, c5, rfl, l5, r5, i5⟩ := o5.formN) | (go_at_call 71; refine (number_z 0 _ (by omega) (by omega)).mono ?_; rintro e w1 ⟨v1, rfl, o1, hw1⟩; obtain ⟨A1, n1, c1, rfl, l1, r1, i1⟩ := o1.formN))
    (try (go_wp2_with fail))
    refine hK.out _ _ (by (try dsimp only); exact box4 HBX.out (by with_reducible (repeat (first | exact Ext.rfl_ _ | assumption | refine Ext.drew ?_ | refine Ext.drewN ?_ _ | refine Ext.alloc ?_ _ | refine Ext.trans ?_ (by assumption))))) (fun hHeld => ?_)
    clear hK K
    (try simp only [Act.put, List.getElem_toArray, List.getElem_cons_zero, List.getElem_cons_succ, List.setIfInBounds_toArray, List.set_cons_zero, List.set_cons_succ])
    refine wpAnyH_ready (rs := [11]) (by kernel_rfl) (by simp) ?_
    refine AllReadyH.cons (o := ({ dst := some 27, op := Go.Op.call { callee := Go.Callee.value (Go.Operand.func 71), args := #[Go.Operand.tmp 26], argTypes := #[84] }, type := 22, pos := "block.go:40", after := #[{ on := 10, ground := Go.Ground.data }, { on := 7, ground := Go.Ground.chain }], guard := none } : Go.Oper)) rfl (fun K hK => ?_) AllReadyH.nil
    go_simp
    (first | (go_at_call 72; refine (wbytes_any _ _ _ (x.key.drop 0) _ (KD.ext (X0A.trans (by with_reducible (repeat (first | exact Ext.rfl_ _ | assumption | refine Ext.drew ?_ | refine Ext.drewN ?_ _ | refine Ext.alloc ?_ _ | refine Ext.trans ?_ (by assumption)))))) (by unfold B40; omega)).mono ?_; rintro e w2 ⟨v2, rfl, o2, hw2⟩; obtain ⟨A2, n2, c2, rfl, l2, r2, i2⟩ := o2.formN) | (go_at_call_of 71 (Value.int .u64 x.seq); refine (number_z x.seq _ (by omega) (by omega)).mono ?_; rintro e w3 ⟨v3, rfl, o3, hw3⟩; obtain ⟨A3, n3, c3, rfl, l3, r3, i3⟩ := o3.formN) | (go_at_call_of 71 (Value.int .u64 x.kind); refine (number_z x.kind _ (by omega) (by omega)).mono ?_; rintro e w4 ⟨v4, rfl, o4, hw4⟩; obtain ⟨A4, n4, c4, rfl, l4, r4, i4⟩ := o4.formN) | (go_at_call 70; refine (join_any _ 4 4 [numB (0 : Int).toNat, bytB (x.key.drop 0), numB x.seq.toNat, numB x.kind.toNat] _ (RdBB.new4 (r1.ext (by with_reducible (repeat (first | exact Ext.rfl_ _ | assumption | refine Ext.drew ?_ | refine Ext.drewN ?_ _ | refine Ext.alloc ?_ _ | refine Ext.trans ?_ (by assumption))))) (r2.ext (by with_reducible (repeat (first | exact Ext.rfl_ _ | assumption | refine Ext.drew ?_ | refine Ext.drewN ?_ _ | refine Ext.alloc ?_ _ | refine Ext.trans ?_ (by assumption))))) (r3.ext (by with_reducible (repeat (first | exact Ext.rfl_ _ | assumption | refine Ext.drew ?_ | refine Ext.drewN ?_ _ | refine Ext.alloc ?_ _ | refine Ext.trans ?_ (by assumption))))) (r4.ext (by with_reducible (repeat (first | exact Ext.rfl_ _ | assumption | refine Ext.drew ?_ | refine Ext.drewN ?_ _ | refine Ext.alloc ?_ _ | refine Ext.trans ?_ (by assumption)))))) (by decide) (by unfold B47; omega)).mono ?_; rintro e w5 ⟨v5, rfl, o5, hw5⟩; obtain ⟨A5, n5, c5, rfl, l5, r5, i5⟩ := o5.formN) | (go_at_call 71; refine (number_z 0 _ (by omega) (by omega)).mono ?_; rintro e w1 ⟨v1, rfl, o1, hw1⟩; obtain ⟨A1, n1, c1, rfl, l1, r1, i1⟩ := o1.formN))
    (try (go_wp2_with fail))
    refine hK.out _ _ (by (try dsimp only); exact box4 HBX.out (by with_reducible (repeat (first | exact Ext.rfl_ _ | assumption | refine Ext.drew ?_ | refine Ext.drewN ?_ _ | refine Ext.alloc ?_ _ | refine Ext.trans ?_ (by assumption))))) (fun hHeld => ?_)
    clear hK K
    (try simp only [Act.put, List.getElem_toArray, List.getElem_cons_zero, List.getElem_cons_succ, List.setIfInBounds_toArray, List.set_cons_zero, List.set_cons_succ])
    refine wpAnyH_ready (rs := [15]) (by kernel_rfl) (by simp) ?_
    refine AllReadyH.cons (o := ({ dst := some 31, op := Go.Op.call { callee := Go.Callee.value (Go.Operand.func 71), args := #[Go.Operand.tmp 30], argTypes := #[84] }, type := 22, pos := "block.go:40", after := #[{ on := 14, ground := Go.Ground.data }, { on := 11, ground := Go.Ground.chain }], guard := none } : Go.Oper)) rfl (fun K hK => ?_) AllReadyH.nil
    go_simp
    (first | (go_at_call 72; refine (wbytes_any _ _ _ (x.key.drop 0) _ (KD.ext (X0A.trans (by with_reducible (repeat (first | exact Ext.rfl_ _ | assumption | refine Ext.drew ?_ | refine Ext.drewN ?_ _ | refine Ext.alloc ?_ _ | refine Ext.trans ?_ (by assumption)))))) (by unfold B40; omega)).mono ?_; rintro e w2 ⟨v2, rfl, o2, hw2⟩; obtain ⟨A2, n2, c2, rfl, l2, r2, i2⟩ := o2.formN) | (go_at_call_of 71 (Value.int .u64 x.seq); refine (number_z x.seq _ (by omega) (by omega)).mono ?_; rintro e w3 ⟨v3, rfl, o3, hw3⟩; obtain ⟨A3, n3, c3, rfl, l3, r3, i3⟩ := o3.formN) | (go_at_call_of 71 (Value.int .u64 x.kind); refine (number_z x.kind _ (by omega) (by omega)).mono ?_; rintro e w4 ⟨v4, rfl, o4, hw4⟩; obtain ⟨A4, n4, c4, rfl, l4, r4, i4⟩ := o4.formN) | (go_at_call 70; refine (join_any _ 4 4 [numB (0 : Int).toNat, bytB (x.key.drop 0), numB x.seq.toNat, numB x.kind.toNat] _ (RdBB.new4 (r1.ext (by with_reducible (repeat (first | exact Ext.rfl_ _ | assumption | refine Ext.drew ?_ | refine Ext.drewN ?_ _ | refine Ext.alloc ?_ _ | refine Ext.trans ?_ (by assumption))))) (r2.ext (by with_reducible (repeat (first | exact Ext.rfl_ _ | assumption | refine Ext.drew ?_ | refine Ext.drewN ?_ _ | refine Ext.alloc ?_ _ | refine Ext.trans ?_ (by assumption))))) (r3.ext (by with_reducible (repeat (first | exact Ext.rfl_ _ | assumption | refine Ext.drew ?_ | refine Ext.drewN ?_ _ | refine Ext.alloc ?_ _ | refine Ext.trans ?_ (by assumption))))) (r4.ext (by with_reducible (repeat (first | exact Ext.rfl_ _ | assumption | refine Ext.drew ?_ | refine Ext.drewN ?_ _ | refine Ext.alloc ?_ _ | refine Ext.trans ?_ (by assumption)))))) (by decide) (by unfold B47; omega)).mono ?_; rintro e w5 ⟨v5, rfl, o5, hw5⟩; obtain ⟨A5, n5, c5, rfl, l5, r5, i5⟩ := o5.formN) | (go_at_call 71; refine (number_z 0 _ (by omega) (by omega)).mono ?_; rintro e w1 ⟨v1, rfl, o1, hw1⟩; obtain ⟨A1, n1, c1, rfl, l1, r1, i1⟩ := o1.formN))
    (try (go_wp2_with fail))
    refine hK.out _ _ (by (try dsimp only); exact box4 HBX.out (by with_reducible (repeat (first | exact Ext.rfl_ _ | assumption | refine Ext.drew ?_ | refine Ext.drewN ?_ _ | refine Ext.alloc ?_ _ | refine Ext.trans ?_ (by assumption))))) (fun hHeld => ?_)
    clear hK K
    (try simp only [Act.put, List.getElem_toArray, List.getElem_cons_zero, List.getElem_cons_succ, List.setIfInBounds_toArray, List.set_cons_zero, List.set_cons_succ])
    refine wpAnyH_ready (rs := [16]) (by kernel_rfl) (by simp) ?_
    refine AllReadyH.cons (o := ({ dst := some 32, op := Go.Op.buildSlice 100 4 #[(0, Go.Operand.tmp 18), (1, Go.Operand.tmp 23), (2, Go.Operand.tmp 27), (3, Go.Operand.tmp 31)], type := 100, pos := "block.go:40", after := #[{ on := 2, ground := Go.Ground.data }, { on := 7, ground := Go.Ground.data }, { on := 11, ground := Go.Ground.data }, { on := 15, ground := Go.Ground.data }], guard := none } : Go.Oper)) rfl (fun K hK => ?_) AllReadyH.nil
    go_simp
    refine hK.out _ _ (by (try dsimp only); exact box4 HBX.out (by with_reducible (repeat (first | exact Ext.rfl_ _ | assumption | refine Ext.drew ?_ | refine Ext.drewN ?_ _ | refine Ext.alloc ?_ _ | refine Ext.trans ?_ (by assumption))))) (fun hHeld => ?_)
    clear hK K
    (try simp only [Act.put, List.getElem_toArray, List.getElem_cons_zero, List.getElem_cons_succ, List.setIfInBounds_toArray, List.set_cons_zero, List.set_cons_succ])
    refine wpAnyH_ready (rs := [17]) (by kernel_rfl) (by simp) ?_
    refine AllReadyH.cons (o := ({ dst := some 33, op := Go.Op.call { callee := Go.Callee.value (Go.Operand.func 70), args := #[Go.Operand.tmp 32], argTypes := #[100] }, type := 22, pos := "block.go:40", after := #[{ on := 16, ground := Go.Ground.data }, { on := 15, ground := Go.Ground.chain }], guard := none } : Go.Oper)) rfl (fun K hK => ?_) AllReadyH.nil
    go_simp
    (first | (go_at_call 72; refine (wbytes_any _ _ _ (x.key.drop 0) _ (KD.ext (X0A.trans (by with_reducible (repeat (first | exact Ext.rfl_ _ | assumption | refine Ext.drew ?_ | refine Ext.drewN ?_ _ | refine Ext.alloc ?_ _ | refine Ext.trans ?_ (by assumption)))))) (by unfold B40; omega)).mono ?_; rintro e w2 ⟨v2, rfl, o2, hw2⟩; obtain ⟨A2, n2, c2, rfl, l2, r2, i2⟩ := o2.formN) | (go_at_call_of 71 (Value.int .u64 x.seq); refine (number_z x.seq _ (by omega) (by omega)).mono ?_; rintro e w3 ⟨v3, rfl, o3, hw3⟩; obtain ⟨A3, n3, c3, rfl, l3, r3, i3⟩ := o3.formN) | (go_at_call_of 71 (Value.int .u64 x.kind); refine (number_z x.kind _ (by omega) (by omega)).mono ?_; rintro e w4 ⟨v4, rfl, o4, hw4⟩; obtain ⟨A4, n4, c4, rfl, l4, r4, i4⟩ := o4.formN) | (go_at_call 70; refine (join_any _ 4 4 [numB (0 : Int).toNat, bytB (x.key.drop 0), numB x.seq.toNat, numB x.kind.toNat] _ (RdBB.new4 (r1.ext (by with_reducible (repeat (first | exact Ext.rfl_ _ | assumption | refine Ext.drew ?_ | refine Ext.drewN ?_ _ | refine Ext.alloc ?_ _ | refine Ext.trans ?_ (by assumption))))) (r2.ext (by with_reducible (repeat (first | exact Ext.rfl_ _ | assumption | refine Ext.drew ?_ | refine Ext.drewN ?_ _ | refine Ext.alloc ?_ _ | refine Ext.trans ?_ (by assumption))))) (r3.ext (by with_reducible (repeat (first | exact Ext.rfl_ _ | assumption | refine Ext.drew ?_ | refine Ext.drewN ?_ _ | refine Ext.alloc ?_ _ | refine Ext.trans ?_ (by assumption))))) (r4.ext (by with_reducible (repeat (first | exact Ext.rfl_ _ | assumption | refine Ext.drew ?_ | refine Ext.drewN ?_ _ | refine Ext.alloc ?_ _ | refine Ext.trans ?_ (by assumption)))))) (by decide) (by unfold B47; omega)).mono ?_; rintro e w5 ⟨v5, rfl, o5, hw5⟩; obtain ⟨A5, n5, c5, rfl, l5, r5, i5⟩ := o5.formN) | (go_at_call 71; refine (number_z 0 _ (by omega) (by omega)).mono ?_; rintro e w1 ⟨v1, rfl, o1, hw1⟩; obtain ⟨A1, n1, c1, rfl, l1, r1, i1⟩ := o1.formN))
    (try (go_wp2_with fail))
    refine hK.out _ _ (by (try dsimp only); exact box4 HBX.out (by with_reducible (repeat (first | exact Ext.rfl_ _ | assumption | refine Ext.drew ?_ | refine Ext.drewN ?_ _ | refine Ext.alloc ?_ _ | refine Ext.trans ?_ (by assumption))))) (fun hHeld => ?_)
    clear hK K
    (try simp only [Act.put, List.getElem_toArray, List.getElem_cons_zero, List.getElem_cons_succ, List.setIfInBounds_toArray, List.set_cons_zero, List.set_cons_succ])
    refine wpAnyH_take (i := 18) (oi := ({ dst := some 7, op := Go.Op.assign (Go.Operand.tmp 33), type := 22, pos := "block.go:40", after := #[{ on := 17, ground := Go.Ground.data }, { on := 17, ground := Go.Ground.chain }, { on := 0, ground := Go.Ground.phase }, { on := 1, ground := Go.Ground.phase }, { on := 2, ground := Go.Ground.phase }, { on := 3, ground := Go.Ground.phase }, { on := 4, ground := Go.Ground.phase }, { on := 5, ground := Go.Ground.phase }, { on := 6, ground := Go.Ground.phase }, { on := 7, ground := Go.Ground.phase }, { on := 8, ground := Go.Ground.phase }, { on := 9, ground := Go.Ground.phase }, { on := 10, ground := Go.Ground.phase }, { on := 11, ground := Go.Ground.phase }, { on := 12, ground := Go.Ground.phase }, { on := 13, ground := Go.Ground.phase }, { on := 14, ground := Go.Ground.phase }, { on := 15, ground := Go.Ground.phase }, { on := 16, ground := Go.Ground.phase }, { on := 17, ground := Go.Ground.phase }], guard := none } : Go.Oper)) (v := ?v13) rfl (by kernel_rfl) (by kernel_rfl) (by kernel_rfl) (fun _ _ _ h => h) (Or.inl ⟨by rfl, ?hy13⟩) (by assumption) ?rest13
    case hy13 => (intro w hSw; (try dsimp only at hSw); go_simp; (try with_reducible rfl))
    (try simp only [Act.put, List.getElem_toArray, List.getElem_cons_zero, List.getElem_cons_succ, List.setIfInBounds_toArray, List.set_cons_zero, List.set_cons_succ])
    refine wpAnyH_done (by kernel_rfl) ?_ _
    all_goals
      have X5 := Lib.hid (show Ext wA w5 from (by with_reducible (repeat (first | exact Ext.rfl_ _ | assumption | refine Ext.drew ?_ | refine Ext.drewN ?_ _ | refine Ext.alloc ?_ _ | refine Ext.trans ?_ (by assumption)))))
      obtain ⟨g0, g1, g2, g3, f0, f1, f2, f3⟩ := box4 HBX.out X5.out
      have base5 : wA.heap.size ≤ (w4.alloc (.cells #[.slice A1 n1 c1, .slice A2 n2 c2, .slice A3 n3 c3, .slice A4 n4 c4] 22)).heap.size := Ext.size (w := wA) (w' := w4.alloc _) (by with_reducible (repeat (first | exact Ext.rfl_ _ | assumption | refine Ext.drew ?_ | refine Ext.drewN ?_ _ | refine Ext.alloc ?_ _ | refine Ext.trans ?_ (by assumption))))
      have R5 := Lib.hid r5
      have O5 := Lib.hid o5
      clear hw1 hw2 hw3 hw4 hw5 o1 o2 o3 o4 o5 r1 r2 r3 r4 r5
      rcases HK.out with hk | hk
      · have hkb : (x.kind == 1) = true := by simpa using hk
        have HK1 := Lib.hid hk
        clear hk
        go_wp2_with fail
        refine (wbytes_any A' n' c' x.val _ (KY.out.ext (X0A.trans (X5.out.trans (by with_reducible (repeat (first | exact Ext.rfl_ _ | assumption | refine Ext.drew ?_ | refine Ext.drewN ?_ _ | refine Ext.alloc ?_ _ | refine Ext.trans ?_ (by assumption))))))) (by unfold B40; omega)).mono ?_
        rintro e w6 ⟨v6, rfl, o6, hw6⟩
        obtain ⟨A6, n6, c6, rfl, l6, r6, i6⟩ := o6.formN
        go_wp2_with fail
        refine (join_any _ 2 2 [[numB (0 : Int).toNat, bytB (x.key.drop 0), numB x.seq.toNat, numB x.kind.toNat].flatten, bytB x.val] _ (RdBB.new2 (R5.out.ext (by with_reducible (repeat (first | exact Ext.rfl_ _ | assumption | refine Ext.drew ?_ | refine Ext.drewN ?_ _ | refine Ext.alloc ?_ _ | refine Ext.trans ?_ (by assumption))))) (r6.ext (by with_reducible (repeat (first | exact Ext.rfl_ _ | assumption | refine Ext.drew ?_ | refine Ext.drewN ?_ _ | refine Ext.alloc ?_ _ | refine Ext.trans ?_ (by assumption)))))) (by decide) (by rw [List.flatten_cons, List.length_append]; unfold B47; simp at hsum1 ⊢; omega)).mono ?_
        rintro e w7 ⟨v7, rfl, o7, hw7⟩
        have X7 : Ext wA w7 := X5.out.trans (by with_reducible (repeat (first | exact Ext.rfl_ _ | assumption | refine Ext.drew ?_ | refine Ext.drewN ?_ _ | refine Ext.alloc ?_ _ | refine Ext.trans ?_ (by assumption))))
        have base7 : w5.heap.size ≤ w6.heap.size := Ext.size (w := w5) (w' := w6) (by with_reducible (repeat (first | exact Ext.rfl_ _ | assumption | refine Ext.drew ?_ | refine Ext.drewN ?_ _ | refine Ext.alloc ?_ _ | refine Ext.trans ?_ (by assumption))))
        have base8 : wA.heap.size ≤ w5.heap.size := Ext.size X5.out
        go_wp2
        go_ret
        refine ⟨v7, rfl, ?_, ⟨_, _, c, X7.blk HGA.out, KX.out, hnc, by omega⟩, CA.out.ext X7⟩
        have e7 : OwnB w7 w.heap.size v7 [[numB (0 : Int).toNat, bytB (x.key.drop 0), numB x.seq.toNat, numB x.kind.toNat].flatten, bytB x.val].flatten := o7.mono (by rw [World.size_alloc]; omega)
        rw [blkE_put (k := 0) (by first | rfl | (rw [KS.out]; rfl)) HK1.out]
        exact e7
      · have hkb : (x.kind == 1) = false := by simp; omega
        have HK1 := Lib.hid hk
        clear hk
        go_wp2
        go_ret
        refine ⟨_, rfl, ?_, ⟨_, _, c, X5.out.blk HGA.out, KX.out, hnc, by omega⟩, CA.out.ext X5.out⟩
        have e7 : OwnB w5 w.heap.size _ [numB (0 : Int).toNat, bytB (x.key.drop 0), numB x.seq.toNat, numB x.kind.toNat].flatten := O5.out.mono (by omega)
        rw [blkE_del (k := 0) (by first | rfl | (rw [KS.out]; rfl)) (by rw [HK1.out]; decide)]
        exact e7
  | false =>
    obtain ⟨k, hk⟩ : ∃ k, k = shr p x.key := ⟨_, rfl⟩
    have KS := Lib.hid hk
    rw [← hk] at hsl
    have hkn : k ≤ n := by have := E1.out; omega
    have hkc : k ≤ c := by omega
    have hkni : (k : Int) ≤ (n : Int) := by omega
    have hkci : (k : Int) ≤ (c : Int) := by omega
    have hqk : IntKind.u64.wrap (k : Int) = k := by rw [IntKind.wrap_u64]; omega
    clear hk
    have j1 : (bytB (x.key.drop k)).length ≤ 42 := by unfold bytB; have := numB_length (x.key.drop k).length; have := E1.out; simp at *; omega
    have j0 := numB_length k
    have hsum1 : ([numB ((k : Nat) : Int).toNat, bytB (x.key.drop k), numB x.seq.toNat, numB x.kind.toNat].flatten).length ≤ 72 := by simp at *; omega
    go_enter Try.func69, Try.ntmps69
    go_wp2_with fail
    refine (shared_any _ _ _ _ _ _ p x.key _ (KP.out.ext (H0.out.trans (by with_reducible (repeat (first | exact Ext.rfl_ _ | assumption | refine Ext.drew ?_ | refine Ext.drewN ?_ _ | refine Ext.alloc ?_ _ | refine Ext.trans ?_ (by assumption)))))) (KX.out.ext (H0.out.trans (by with_reducible (repeat (first | exact Ext.rfl_ _ | assumption | refine Ext.drew ?_ | refine Ext.drewN ?_ _ | refine Ext.alloc ?_ _ | refine Ext.trans ?_ (by assumption)))))) (by unfold B47; omega) (by unfold B47; omega)).mono ?_
    rintro e w1 ⟨rfl, hw1⟩
    rw [← KS.out]
    have hcg := hw1.keeps _ _ _ hcg
    have hfg := frozen_at (o := 0) (hw1.blk hG1)
    obtain ⟨s0, s1, s2, s3, z0, z1, z2, z3⟩ := box4 hbox.out hw1
    go_wp2_with fail
    obtain ⟨wA, hwA⟩ : ∃ wA, wA = w1.setCell ⟨g, 0, none⟩ (.slice (some ⟨b, o, none⟩) n c) := ⟨_, rfl⟩
    rw [← hwA]
    obtain ⟨X0A, CA, HBX, HGA⟩ := wrA (w1 := w1) hwA H0.out hg0 HG.out hbox.out hw1
    have BA : w.heap.size ≤ wA.heap.size := CA.out.size
    clear hwA hbox hcg hfg s0 s1 s2 s3 z0 z1 z2 z3 H0 HG hw1
    obtain ⟨g0, g1, g2, g3, f0, f1, f2, f3⟩ := box4 HBX.out (Ext.rfl_ _)
    by_cases hck : k = c
    · subst hck
      have hckn : k = n := by omega
      have KD : Rd w0 (some ⟨b, o, none⟩) 0 (x.key.drop k) := by
        rw [List.drop_eq_nil_of_le (by rw [E1.out]; omega)]
        exact Rd.nil _ _
      have hnk : n ≤ k := by omega
      have hnki : (n : Int) ≤ (k : Int) := by omega
      clear hckn

      refine wp_region_held_drew (S := (fun w' => w'.cell? ⟨w.heap.size, 0, none⟩ = some (.slice (some ⟨b, o, none⟩) n k) ∧ w'.cell? ⟨w.heap.size, 1, none⟩ = some (.int .i64 x.seq) ∧ w'.cell? ⟨w.heap.size, 2, none⟩ = some (.int .i64 x.kind) ∧ w'.cell? ⟨w.heap.size, 3, none⟩ = some (.slice A' n' c') ∧ w'.frozen? ⟨w.heap.size, 0, none⟩ = false ∧ w'.frozen? ⟨w.heap.size, 1, none⟩ = false ∧ w'.frozen? ⟨w.heap.size, 2, none⟩ = false ∧ w'.frozen? ⟨w.heap.size, 3, none⟩ = false)) (by kernel_rfl) (by (try dsimp only); exact box4 HBX.out (by with_reducible (repeat (first | exact Ext.rfl_ _ | assumption | refine Ext.drew ?_ | refine Ext.drewN ?_ _ | refine Ext.alloc ?_ _ | refine Ext.trans ?_ (by assumption))))) (fun hHeld => ?_)
      refine wpAnyH_take (i := 0) (oi := ({ dst := some 16, op := Go.Op.move (Go.Operand.tmp 6), type := 3, pos := "block.go:40", after := #[], guard := none } : Go.Oper)) (v := ?v14) rfl (by kernel_rfl) (by kernel_rfl) (by kernel_rfl) (fun _ _ _ h => h) (Or.inl ⟨by rfl, ?hy14⟩) (by assumption) ?rest14
      case hy14 => (intro w hSw; (try dsimp only at hSw); go_simp; (try with_reducible rfl))
      (try simp only [Act.put, List.getElem_toArray, List.getElem_cons_zero, List.getElem_cons_succ, List.setIfInBounds_toArray, List.set_cons_zero, List.set_cons_succ])
      refine wpAnyH_take (i := 1) (oi := ({ dst := some 17, op := Go.Op.convert 3 84 (Go.Operand.tmp 16), type := 84, pos := "block.go:40", after := #[{ on := 0, ground := Go.Ground.data }], guard := none } : Go.Oper)) (v := ?v15) rfl (by kernel_rfl) (by kernel_rfl) (by kernel_rfl) (fun _ _ _ h => h) (Or.inl ⟨by rfl, ?hy15⟩) (by assumption) ?rest15
      case hy15 => (intro w hSw; (try dsimp only at hSw); go_simp; (try with_reducible rfl))
      (try simp only [Act.put, List.getElem_toArray, List.getElem_cons_zero, List.getElem_cons_succ, List.setIfInBounds_toArray, List.set_cons_zero, List.set_cons_succ])
      refine wpAnyH_take (i := 3) (oi := ({ dst := some 19, op := Go.Op.fieldAddr 28 (Go.Operand.tmp 3) 0, type := 0, pos := "block.go:40", after := #[], guard := none } : Go.Oper)) (v := ?v16) rfl (by kernel_rfl) (by kernel_rfl) (by kernel_rfl) (fun _ _ _ h => h) (Or.inl ⟨by rfl, ?hy16⟩) (by assumption) ?rest16
      case hy16 => (intro w hSw; (try dsimp only at hSw); go_simp; (try with_reducible rfl))
      (try simp only [Act.put, List.getElem_toArray, List.getElem_cons_zero, List.getElem_cons_succ, List.setIfInBounds_toArray, List.set_cons_zero, List.set_cons_succ])
      refine wpAnyH_take (i := 4) (oi := ({ dst := some 20, op := Go.Op.load 22 (Go.Operand.tmp 19), type := 22, pos := "block.go:40", after := #[{ on := 3, ground := Go.Ground.data }], guard := none } : Go.Oper)) (v := ?v17) rfl (by kernel_rfl) (by kernel_rfl) (by kernel_rfl) (fun _ _ _ h => h) (Or.inl ⟨by rfl, ?hy17⟩) (by assumption) ?rest17
      case hy17 => (intro w hSw; (try dsimp only at hSw); go_simp; (try with_reducible rfl))
      (try simp only [Act.put, List.getElem_toArray, List.getElem_cons_zero, List.getElem_cons_succ, List.setIfInBounds_toArray, List.set_cons_zero, List.set_cons_succ])
      refine wpAnyH_take (i := 5) (oi := ({ dst := some 21, op := Go.Op.move (Go.Operand.tmp 6), type := 3, pos := "block.go:40", after := #[], guard := none } : Go.Oper)) (v := ?v18) rfl (by kernel_rfl) (by kernel_rfl) (by kernel_rfl) (fun _ _ _ h => h) (Or.inl ⟨by rfl, ?hy18⟩) (by assumption) ?rest18
      case hy18 => (intro w hSw; (try dsimp only at hSw); go_simp; (try with_reducible rfl))
      (try simp only [Act.put, List.getElem_toArray, List.getElem_cons_zero, List.getElem_cons_succ, List.setIfInBounds_toArray, List.set_cons_zero, List.set_cons_succ])
      refine wpAnyH_take (i := 6) (oi := ({ dst := some 22, op := Go.Op.slice 22 (Go.Operand.tmp 20) (some (Go.Operand.tmp 21)) none none, type := 22, pos := "block.go:40", after := #[{ on := 4, ground := Go.Ground.data }, { on := 5, ground := Go.Ground.data }], guard := none } : Go.Oper)) (v := ?v19) rfl (by kernel_rfl) (by kernel_rfl) (by kernel_rfl) (fun _ _ _ h => h) (Or.inl ⟨by rfl, ?hy19⟩) (by assumption) ?rest19
      case hy19 => (intro w hSw; (try dsimp only at hSw); go_simp; (try with_reducible rfl))
      (try simp only [Act.put, List.getElem_toArray, List.getElem_cons_zero, List.getElem_cons_succ, List.setIfInBounds_toArray, List.set_cons_zero, List.set_cons_succ])
      refine wpAnyH_take (i := 8) (oi := ({ dst := some 24, op := Go.Op.fieldAddr 28 (Go.Operand.tmp 3) 1, type := 0, pos := "block.go:40", after := #[], guard := none } : Go.Oper)) (v := ?v20) rfl (by kernel_rfl) (by kernel_rfl) (by kernel_rfl) (fun _ _ _ h => h) (Or.inl ⟨by rfl, ?hy20⟩) (by assumption) ?rest20
      case hy20 => (intro w hSw; (try dsimp only at hSw); go_simp; (try with_reducible rfl))
      (try simp only [Act.put, List.getElem_toArray, List.getElem_cons_zero, List.getElem_cons_succ, List.setIfInBounds_toArray, List.set_cons_zero, List.set_cons_succ])
      refine wpAnyH_take (i := 9) (oi := ({ dst := some 25, op := Go.Op.load 2 (Go.Operand.tmp 24), type := 2, pos := "block.go:40", after := #[{ on := 8, ground := Go.Ground.data }], guard := none } : Go.Oper)) (v := ?v21) rfl (by kernel_rfl) (by kernel_rfl) (by kernel_rfl) (fun _ _ _ h => h) (Or.inl ⟨by rfl, ?hy21⟩) (by assumption) ?rest21
      case hy21 => (intro w hSw; (try dsimp only at hSw); go_simp; (try with_reducible rfl))
      (try simp only [Act.put, List.getElem_toArray, List.getElem_cons_zero, List.getElem_cons_succ, List.setIfInBounds_toArray, List.set_cons_zero, List.set_cons_succ])
      refine wpAnyH_take (i := 10) (oi := ({ dst := some 26, op := Go.Op.convert 2 84 (Go.Operand.tmp 25), type := 84, pos := "block.go:40", after := #[{ on := 9, ground := Go.Ground.data }], guard := none } : Go.Oper)) (v := ?v22) rfl (by kernel_rfl) (by kernel_rfl) (by kernel_rfl) (fun _ _ _ h => h) (Or.inl ⟨by rfl, ?hy22⟩) (by assumption) ?rest22
      case hy22 => (intro w hSw; (try dsimp only at hSw); go_simp; (try with_reducible rfl))
      (try simp only [Act.put, List.getElem_toArray, List.getElem_cons_zero, List.getElem_cons_succ, List.setIfInBounds_toArray, List.set_cons_zero, List.set_cons_succ])
      refine wpAnyH_take (i := 12) (oi := ({ dst := some 28, op := Go.Op.fieldAddr 28 (Go.Operand.tmp 3) 2, type := 0, pos := "block.go:40", after := #[], guard := none } : Go.Oper)) (v := ?v23) rfl (by kernel_rfl) (by kernel_rfl) (by kernel_rfl) (fun _ _ _ h => h) (Or.inl ⟨by rfl, ?hy23⟩) (by assumption) ?rest23
      case hy23 => (intro w hSw; (try dsimp only at hSw); go_simp; (try with_reducible rfl))
      (try simp only [Act.put, List.getElem_toArray, List.getElem_cons_zero, List.getElem_cons_succ, List.setIfInBounds_toArray, List.set_cons_zero, List.set_cons_succ])
      refine wpAnyH_take (i := 13) (oi := ({ dst := some 29, op := Go.Op.load 26 (Go.Operand.tmp 28), type := 26, pos := "block.go:40", after := #[{ on := 12, ground := Go.Ground.data }], guard := none } : Go.Oper)) (v := ?v24) rfl (by kernel_rfl) (by kernel_rfl) (by kernel_rfl) (fun _ _ _ h => h) (Or.inl ⟨by rfl, ?hy24⟩) (by assumption) ?rest24
      case hy24 => (intro w hSw; (try dsimp only at hSw); go_simp; (try with_reducible rfl))
      (try simp only [Act.put, List.getElem_toArray, List.getElem_cons_zero, List.getElem_cons_succ, List.setIfInBounds_toArray, List.set_cons_zero, List.set_cons_succ])
      refine wpAnyH_take (i := 14) (oi := ({ dst := some 30, op := Go.Op.convert 26 84 (Go.Operand.tmp 29), type := 84, pos := "block.go:40", after := #[{ on := 13, ground := Go.Ground.data }], guard := none } : Go.Oper)) (v := ?v25) rfl (by kernel_rfl) (by kernel_rfl) (by kernel_rfl) (fun _ _ _ h => h) (Or.inl ⟨by rfl, ?hy25⟩) (by assumption) ?rest25
      case hy25 => (intro w hSw; (try dsimp only at hSw); go_simp; (try with_reducible rfl))
      (try simp only [Act.put, List.getElem_toArray, List.getElem_cons_zero, List.getElem_cons_succ, List.setIfInBounds_toArray, List.set_cons_zero, List.set_cons_succ])
      refine wpAnyH_ready (rs := [2]) (by kernel_rfl) (by simp) ?_
      refine AllReadyH.cons (o := ({ dst := some 18, op := Go.Op.call { callee := Go.Callee.value (Go.Operand.func 71), args := #[Go.Operand.tmp 17], argTypes := #[84] }, type := 22, pos := "block.go:40", after := #[{ on := 1, ground := Go.Ground.data }], guard := none } : Go.Oper)) rfl (fun K hK => ?_) AllReadyH.nil
      go_simp
      (first | (go_at_call 72; refine (wbytes_any _ _ _ (x.key.drop k) _ (KD.ext (X0A.trans (by with_reducible (repeat (first | exact Ext.rfl_ _ | assumption | refine Ext.drew ?_ | refine Ext.drewN ?_ _ | refine Ext.alloc ?_ _ | refine Ext.trans ?_ (by assumption)))))) (by unfold B40; omega)).mono ?_; rintro e w2 ⟨v2, rfl, o2, hw2⟩; obtain ⟨A2, n2, c2, rfl, l2, r2, i2⟩ := o2.formN) | (go_at_call_of 71 (Value.int .u64 x.seq); refine (number_z x.seq _ (by omega) (by omega)).mono ?_; rintro e w3 ⟨v3, rfl, o3, hw3⟩; obtain ⟨A3, n3, c3, rfl, l3, r3, i3⟩ := o3.formN) | (go_at_call_of 71 (Value.int .u64 x.kind); refine (number_z x.kind _ (by omega) (by omega)).mono ?_; rintro e w4 ⟨v4, rfl, o4, hw4⟩; obtain ⟨A4, n4, c4, rfl, l4, r4, i4⟩ := o4.formN) | (go_at_call 70; refine (join_any _ 4 4 [numB ((k : Nat) : Int).toNat, bytB (x.key.drop k), numB x.seq.toNat, numB x.kind.toNat] _ (RdBB.new4 (r1.ext (by with_reducible (repeat (first | exact Ext.rfl_ _ | assumption | refine Ext.drew ?_ | refine Ext.drewN ?_ _ | refine Ext.alloc ?_ _ | refine Ext.trans ?_ (by assumption))))) (r2.ext (by with_reducible (repeat (first | exact Ext.rfl_ _ | assumption | refine Ext.drew ?_ | refine Ext.drewN ?_ _ | refine Ext.alloc ?_ _ | refine Ext.trans ?_ (by assumption))))) (r3.ext (by with_reducible (repeat (first | exact Ext.rfl_ _ | assumption | refine Ext.drew ?_ | refine Ext.drewN ?_ _ | refine Ext.alloc ?_ _ | refine Ext.trans ?_ (by assumption))))) (r4.ext (by with_reducible (repeat (first | exact Ext.rfl_ _ | assumption | refine Ext.drew ?_ | refine Ext.drewN ?_ _ | refine Ext.alloc ?_ _ | refine Ext.trans ?_ (by assumption)))))) (by decide) (by unfold B47; omega)).mono ?_; rintro e w5 ⟨v5, rfl, o5, hw5⟩; obtain ⟨A5, n5, c5, rfl, l5, r5, i5⟩ := o5.formN) | (go_at_call 71; refine (number_z (k : Int) _ (by omega) (by omega)).mono ?_; rintro e w1 ⟨v1, rfl, o1, hw1⟩; obtain ⟨A1, n1, c1, rfl, l1, r1, i1⟩ := o1.formN))
      (try (go_wp2_with fail))
      refine hK.out _ _ (by (try dsimp only); exact box4 HBX.out (by with_reducible (repeat (first | exact Ext.rfl_ _ | assumption | refine Ext.drew ?_ | refine Ext.drewN ?_ _ | refine Ext.alloc ?_ _ | refine Ext.trans ?_ (by assumption))))) (fun hHeld => ?_)
      clear hK K
      (try simp only [Act.put, List.getElem_toArray, List.getElem_cons_zero, List.getElem_cons_succ, List.setIfInBounds_toArray, List.set_cons_zero, List.set_cons_succ])
      refine wpAnyH_ready (rs := [7]) (by kernel_rfl) (by simp) ?_
      refine AllReadyH.cons (o := ({ dst := some 23, op := Go.Op.call { callee := Go.Callee.value (Go.Operand.func 72), args := #[Go.Operand.tmp 22], argTypes := #[22] }, type := 22, pos := "block.go:40", after := #[{ on := 6, ground := Go.Ground.data }, { on := 2, ground := Go.Ground.chain }], guard := none } : Go.Oper)) rfl (fun K hK => ?_) AllReadyH.nil
      go_simp
      (first | (go_at_call 72; refine (wbytes_any _ _ _ (x.key.drop k) _ (KD.ext (X0A.trans (by with_reducible (repeat (first | exact Ext.rfl_ _ | assumption | refine Ext.drew ?_ | refine Ext.drewN ?_ _ | refine Ext.alloc ?_ _ | refine Ext.trans ?_ (by assumption)))))) (by unfold B40; omega)).mono ?_; rintro e w2 ⟨v2, rfl, o2, hw2⟩; obtain ⟨A2, n2, c2, rfl, l2, r2, i2⟩ := o2.formN) | (go_at_call_of 71 (Value.int .u64 x.seq); refine (number_z x.seq _ (by omega) (by omega)).mono ?_; rintro e w3 ⟨v3, rfl, o3, hw3⟩; obtain ⟨A3, n3, c3, rfl, l3, r3, i3⟩ := o3.formN) | (go_at_call_of 71 (Value.int .u64 x.kind); refine (number_z x.kind _ (by omega) (by omega)).mono ?_; rintro e w4 ⟨v4, rfl, o4, hw4⟩; obtain ⟨A4, n4, c4, rfl, l4, r4, i4⟩ := o4.formN) | (go_at_call 70; refine (join_any _ 4 4 [numB ((k : Nat) : Int).toNat, bytB (x.key.drop k), numB x.seq.toNat, numB x.kind.toNat] _ (RdBB.new4 (r1.ext (by with_reducible (repeat (first | exact Ext.rfl_ _ | assumption | refine Ext.drew ?_ | refine Ext.drewN ?_ _ | refine Ext.alloc ?_ _ | refine Ext.trans ?_ (by assumption))))) (r2.ext (by with_reducible (repeat (first | exact Ext.rfl_ _ | assumption | refine Ext.drew ?_ | refine Ext.drewN ?_ _ | refine Ext.alloc ?_ _ | refine Ext.trans ?_ (by assumption))))) (r3.ext (by with_reducible (repeat (first | exact Ext.rfl_ _ | assumption | refine Ext.drew ?_ | refine Ext.drewN ?_ _ | refine Ext.alloc ?_ _ | refine Ext.trans ?_ (by assumption))))) (r4.ext (by with_reducible (repeat (first | exact Ext.rfl_ _ | assumption | refine Ext.drew ?_ | refine Ext.drewN ?_ _ | refine Ext.alloc ?_ _ | refine Ext.trans ?_ (by assumption)))))) (by decide) (by unfold B47; omega)).mono ?_; rintro e w5 ⟨v5, rfl, o5, hw5⟩; obtain ⟨A5, n5, c5, rfl, l5, r5, i5⟩ := o5.formN) | (go_at_call 71; refine (number_z (k : Int) _ (by omega) (by omega)).mono ?_; rintro e w1 ⟨v1, rfl, o1, hw1⟩; obtain ⟨A1, n1, c1, rfl, l1, r1, i1⟩ := o1.formN))
      (try (go_wp2_with fail))
      refine hK.out _ _ (by (try dsimp only); exact box4 HBX.out (by with_reducible (repeat (first | exact Ext.rfl_ _ | assumption | refine Ext.drew ?_ | refine Ext.drewN ?_ _ | refine Ext.alloc ?_ _ | refine Ext.trans ?_ (by assumption))))) (fun hHeld => ?_)
      clear hK K
      (try simp only [Act.put, List.getElem_toArray, List.getElem_cons_zero, List.getElem_cons_succ, List.setIfInBounds_toArray, List.set_cons_zero, List.set_cons_succ])
      refine wpAnyH_ready (rs := [11]) (by kernel_rfl) (by simp) ?_
      refine AllReadyH.cons (o := ({ dst := some 27, op := Go.Op.call { callee := Go.Callee.value (Go.Operand.func 71), args := #[Go.Operand.tmp 26], argTypes := #[84] }, type := 22, pos := "block.go:40", after := #[{ on := 10, ground := Go.Ground.data }, { on := 7, ground := Go.Ground.chain }], guard := none } : Go.Oper)) rfl (fun K hK => ?_) AllReadyH.nil
      go_simp
      (first | (go_at_call 72; refine (wbytes_any _ _ _ (x.key.drop k) _ (KD.ext (X0A.trans (by with_reducible (repeat (first | exact Ext.rfl_ _ | assumption | refine Ext.drew ?_ | refine Ext.drewN ?_ _ | refine Ext.alloc ?_ _ | refine Ext.trans ?_ (by assumption)))))) (by unfold B40; omega)).mono ?_; rintro e w2 ⟨v2, rfl, o2, hw2⟩; obtain ⟨A2, n2, c2, rfl, l2, r2, i2⟩ := o2.formN) | (go_at_call_of 71 (Value.int .u64 x.seq); refine (number_z x.seq _ (by omega) (by omega)).mono ?_; rintro e w3 ⟨v3, rfl, o3, hw3⟩; obtain ⟨A3, n3, c3, rfl, l3, r3, i3⟩ := o3.formN) | (go_at_call_of 71 (Value.int .u64 x.kind); refine (number_z x.kind _ (by omega) (by omega)).mono ?_; rintro e w4 ⟨v4, rfl, o4, hw4⟩; obtain ⟨A4, n4, c4, rfl, l4, r4, i4⟩ := o4.formN) | (go_at_call 70; refine (join_any _ 4 4 [numB ((k : Nat) : Int).toNat, bytB (x.key.drop k), numB x.seq.toNat, numB x.kind.toNat] _ (RdBB.new4 (r1.ext (by with_reducible (repeat (first | exact Ext.rfl_ _ | assumption | refine Ext.drew ?_ | refine Ext.drewN ?_ _ | refine Ext.alloc ?_ _ | refine Ext.trans ?_ (by assumption))))) (r2.ext (by with_reducible (repeat (first | exact Ext.rfl_ _ | assumption | refine Ext.drew ?_ | refine Ext.drewN ?_ _ | refine Ext.alloc ?_ _ | refine Ext.trans ?_ (by assumption))))) (r3.ext (by with_reducible (repeat (first | exact Ext.rfl_ _ | assumption | refine Ext.drew ?_ | refine Ext.drewN ?_ _ | refine Ext.alloc ?_ _ | refine Ext.trans ?_ (by assumption))))) (r4.ext (by with_reducible (repeat (first | exact Ext.rfl_ _ | assumption | refine Ext.drew ?_ | refine Ext.drewN ?_ _ | refine Ext.alloc ?_ _ | refine Ext.trans ?_ (by assumption)))))) (by decide) (by unfold B47; omega)).mono ?_; rintro e w5 ⟨v5, rfl, o5, hw5⟩; obtain ⟨A5, n5, c5, rfl, l5, r5, i5⟩ := o5.formN) | (go_at_call 71; refine (number_z (k : Int) _ (by omega) (by omega)).mono ?_; rintro e w1 ⟨v1, rfl, o1, hw1⟩; obtain ⟨A1, n1, c1, rfl, l1, r1, i1⟩ := o1.formN))
      (try (go_wp2_with fail))
      refine hK.out _ _ (by (try dsimp only); exact box4 HBX.out (by with_reducible (repeat (first | exact Ext.rfl_ _ | assumption | refine Ext.drew ?_ | refine Ext.drewN ?_ _ | refine Ext.alloc ?_ _ | refine Ext.trans ?_ (by assumption))))) (fun hHeld => ?_)
      clear hK K
      (try simp only [Act.put, List.getElem_toArray, List.getElem_cons_zero, List.getElem_cons_succ, List.setIfInBounds_toArray, List.set_cons_zero, List.set_cons_succ])
      refine wpAnyH_ready (rs := [15]) (by kernel_rfl) (by simp) ?_
      refine AllReadyH.cons (o := ({ dst := some 31, op := Go.Op.call { callee := Go.Callee.value (Go.Operand.func 71), args := #[Go.Operand.tmp 30], argTypes := #[84] }, type := 22, pos := "block.go:40", after := #[{ on := 14, ground := Go.Ground.data }, { on := 11, ground := Go.Ground.chain }], guard := none } : Go.Oper)) rfl (fun K hK => ?_) AllReadyH.nil
      go_simp
      (first | (go_at_call 72; refine (wbytes_any _ _ _ (x.key.drop k) _ (KD.ext (X0A.trans (by with_reducible (repeat (first | exact Ext.rfl_ _ | assumption | refine Ext.drew ?_ | refine Ext.drewN ?_ _ | refine Ext.alloc ?_ _ | refine Ext.trans ?_ (by assumption)))))) (by unfold B40; omega)).mono ?_; rintro e w2 ⟨v2, rfl, o2, hw2⟩; obtain ⟨A2, n2, c2, rfl, l2, r2, i2⟩ := o2.formN) | (go_at_call_of 71 (Value.int .u64 x.seq); refine (number_z x.seq _ (by omega) (by omega)).mono ?_; rintro e w3 ⟨v3, rfl, o3, hw3⟩; obtain ⟨A3, n3, c3, rfl, l3, r3, i3⟩ := o3.formN) | (go_at_call_of 71 (Value.int .u64 x.kind); refine (number_z x.kind _ (by omega) (by omega)).mono ?_; rintro e w4 ⟨v4, rfl, o4, hw4⟩; obtain ⟨A4, n4, c4, rfl, l4, r4, i4⟩ := o4.formN) | (go_at_call 70; refine (join_any _ 4 4 [numB ((k : Nat) : Int).toNat, bytB (x.key.drop k), numB x.seq.toNat, numB x.kind.toNat] _ (RdBB.new4 (r1.ext (by with_reducible (repeat (first | exact Ext.rfl_ _ | assumption | refine Ext.drew ?_ | refine Ext.drewN ?_ _ | refine Ext.alloc ?_ _ | refine Ext.trans ?_ (by assumption))))) (r2.ext (by with_reducible (repeat (first | exact Ext.rfl_ _ | assumption | refine Ext.drew ?_ | refine Ext.drewN ?_ _ | refine Ext.alloc ?_ _ | refine Ext.trans ?_ (by assumption))))) (r3.ext (by with_reducible (repeat (first | exact Ext.rfl_ _ | assumption | refine Ext.drew ?_ | refine Ext.drewN ?_ _ | refine Ext.alloc ?_ _ | refine Ext.trans ?_ (by assumption))))) (r4.ext (by with_reducible (repeat (first | exact Ext.rfl_ _ | assumption | refine Ext.drew ?_ | refine Ext.drewN ?_ _ | refine Ext.alloc ?_ _ | refine Ext.trans ?_ (by assumption)))))) (by decide) (by unfold B47; omega)).mono ?_; rintro e w5 ⟨v5, rfl, o5, hw5⟩; obtain ⟨A5, n5, c5, rfl, l5, r5, i5⟩ := o5.formN) | (go_at_call 71; refine (number_z (k : Int) _ (by omega) (by omega)).mono ?_; rintro e w1 ⟨v1, rfl, o1, hw1⟩; obtain ⟨A1, n1, c1, rfl, l1, r1, i1⟩ := o1.formN))
      (try (go_wp2_with fail))
      refine hK.out _ _ (by (try dsimp only); exact box4 HBX.out (by with_reducible (repeat (first | exact Ext.rfl_ _ | assumption | refine Ext.drew ?_ | refine Ext.drewN ?_ _ | refine Ext.alloc ?_ _ | refine Ext.trans ?_ (by assumption))))) (fun hHeld => ?_)
      clear hK K
      (try simp only [Act.put, List.getElem_toArray, List.getElem_cons_zero, List.getElem_cons_succ, List.setIfInBounds_toArray, List.set_cons_zero, List.set_cons_succ])
      refine wpAnyH_ready (rs := [16]) (by kernel_rfl) (by simp) ?_
      refine AllReadyH.cons (o := ({ dst := some 32, op := Go.Op.buildSlice 100 4 #[(0, Go.Operand.tmp 18), (1, Go.Operand.tmp 23), (2, Go.Operand.tmp 27), (3, Go.Operand.tmp 31)], type := 100, pos := "block.go:40", after := #[{ on := 2, ground := Go.Ground.data }, { on := 7, ground := Go.Ground.data }, { on := 11, ground := Go.Ground.data }, { on := 15, ground := Go.Ground.data }], guard := none } : Go.Oper)) rfl (fun K hK => ?_) AllReadyH.nil
      go_simp
      refine hK.out _ _ (by (try dsimp only); exact box4 HBX.out (by with_reducible (repeat (first | exact Ext.rfl_ _ | assumption | refine Ext.drew ?_ | refine Ext.drewN ?_ _ | refine Ext.alloc ?_ _ | refine Ext.trans ?_ (by assumption))))) (fun hHeld => ?_)
      clear hK K
      (try simp only [Act.put, List.getElem_toArray, List.getElem_cons_zero, List.getElem_cons_succ, List.setIfInBounds_toArray, List.set_cons_zero, List.set_cons_succ])
      refine wpAnyH_ready (rs := [17]) (by kernel_rfl) (by simp) ?_
      refine AllReadyH.cons (o := ({ dst := some 33, op := Go.Op.call { callee := Go.Callee.value (Go.Operand.func 70), args := #[Go.Operand.tmp 32], argTypes := #[100] }, type := 22, pos := "block.go:40", after := #[{ on := 16, ground := Go.Ground.data }, { on := 15, ground := Go.Ground.chain }], guard := none } : Go.Oper)) rfl (fun K hK => ?_) AllReadyH.nil
      go_simp
      (first | (go_at_call 72; refine (wbytes_any _ _ _ (x.key.drop k) _ (KD.ext (X0A.trans (by with_reducible (repeat (first | exact Ext.rfl_ _ | assumption | refine Ext.drew ?_ | refine Ext.drewN ?_ _ | refine Ext.alloc ?_ _ | refine Ext.trans ?_ (by assumption)))))) (by unfold B40; omega)).mono ?_; rintro e w2 ⟨v2, rfl, o2, hw2⟩; obtain ⟨A2, n2, c2, rfl, l2, r2, i2⟩ := o2.formN) | (go_at_call_of 71 (Value.int .u64 x.seq); refine (number_z x.seq _ (by omega) (by omega)).mono ?_; rintro e w3 ⟨v3, rfl, o3, hw3⟩; obtain ⟨A3, n3, c3, rfl, l3, r3, i3⟩ := o3.formN) | (go_at_call_of 71 (Value.int .u64 x.kind); refine (number_z x.kind _ (by omega) (by omega)).mono ?_; rintro e w4 ⟨v4, rfl, o4, hw4⟩; obtain ⟨A4, n4, c4, rfl, l4, r4, i4⟩ := o4.formN) | (go_at_call 70; refine (join_any _ 4 4 [numB ((k : Nat) : Int).toNat, bytB (x.key.drop k), numB x.seq.toNat, numB x.kind.toNat] _ (RdBB.new4 (r1.ext (by with_reducible (repeat (first | exact Ext.rfl_ _ | assumption | refine Ext.drew ?_ | refine Ext.drewN ?_ _ | refine Ext.alloc ?_ _ | refine Ext.trans ?_ (by assumption))))) (r2.ext (by with_reducible (repeat (first | exact Ext.rfl_ _ | assumption | refine Ext.drew ?_ | refine Ext.drewN ?_ _ | refine Ext.alloc ?_ _ | refine Ext.trans ?_ (by assumption))))) (r3.ext (by with_reducible (repeat (first | exact Ext.rfl_ _ | assumption | refine Ext.drew ?_ | refine Ext.drewN ?_ _ | refine Ext.alloc ?_ _ | refine Ext.trans ?_ (by assumption))))) (r4.ext (by with_reducible (repeat (first | exact Ext.rfl_ _ | assumption | refine Ext.drew ?_ | refine Ext.drewN ?_ _ | refine Ext.alloc ?_ _ | refine Ext.trans ?_ (by assumption)))))) (by decide) (by unfold B47; omega)).mono ?_; rintro e w5 ⟨v5, rfl, o5, hw5⟩; obtain ⟨A5, n5, c5, rfl, l5, r5, i5⟩ := o5.formN) | (go_at_call 71; refine (number_z (k : Int) _ (by omega) (by omega)).mono ?_; rintro e w1 ⟨v1, rfl, o1, hw1⟩; obtain ⟨A1, n1, c1, rfl, l1, r1, i1⟩ := o1.formN))
      (try (go_wp2_with fail))
      refine hK.out _ _ (by (try dsimp only); exact box4 HBX.out (by with_reducible (repeat (first | exact Ext.rfl_ _ | assumption | refine Ext.drew ?_ | refine Ext.drewN ?_ _ | refine Ext.alloc ?_ _ | refine Ext.trans ?_ (by assumption))))) (fun hHeld => ?_)
      clear hK K
      (try simp only [Act.put, List.getElem_toArray, List.getElem_cons_zero, List.getElem_cons_succ, List.setIfInBounds_toArray, List.set_cons_zero, List.set_cons_succ])
      refine wpAnyH_take (i := 18) (oi := ({ dst := some 7, op := Go.Op.assign (Go.Operand.tmp 33), type := 22, pos := "block.go:40", after := #[{ on := 17, ground := Go.Ground.data }, { on := 17, ground := Go.Ground.chain }, { on := 0, ground := Go.Ground.phase }, { on := 1, ground := Go.Ground.phase }, { on := 2, ground := Go.Ground.phase }, { on := 3, ground := Go.Ground.phase }, { on := 4, ground := Go.Ground.phase }, { on := 5, ground := Go.Ground.phase }, { on := 6, ground := Go.Ground.phase }, { on := 7, ground := Go.Ground.phase }, { on := 8, ground := Go.Ground.phase }, { on := 9, ground := Go.Ground.phase }, { on := 10, ground := Go.Ground.phase }, { on := 11, ground := Go.Ground.phase }, { on := 12, ground := Go.Ground.phase }, { on := 13, ground := Go.Ground.phase }, { on := 14, ground := Go.Ground.phase }, { on := 15, ground := Go.Ground.phase }, { on := 16, ground := Go.Ground.phase }, { on := 17, ground := Go.Ground.phase }], guard := none } : Go.Oper)) (v := ?v26) rfl (by kernel_rfl) (by kernel_rfl) (by kernel_rfl) (fun _ _ _ h => h) (Or.inl ⟨by rfl, ?hy26⟩) (by assumption) ?rest26
      case hy26 => (intro w hSw; (try dsimp only at hSw); go_simp; (try with_reducible rfl))
      (try simp only [Act.put, List.getElem_toArray, List.getElem_cons_zero, List.getElem_cons_succ, List.setIfInBounds_toArray, List.set_cons_zero, List.set_cons_succ])
      refine wpAnyH_done (by kernel_rfl) ?_ _
      all_goals
        have X5 := Lib.hid (show Ext wA w5 from (by with_reducible (repeat (first | exact Ext.rfl_ _ | assumption | refine Ext.drew ?_ | refine Ext.drewN ?_ _ | refine Ext.alloc ?_ _ | refine Ext.trans ?_ (by assumption)))))
        obtain ⟨g0, g1, g2, g3, f0, f1, f2, f3⟩ := box4 HBX.out X5.out
        have base5 : wA.heap.size ≤ (w4.alloc (.cells #[.slice A1 n1 c1, .slice A2 n2 c2, .slice A3 n3 c3, .slice A4 n4 c4] 22)).heap.size := Ext.size (w := wA) (w' := w4.alloc _) (by with_reducible (repeat (first | exact Ext.rfl_ _ | assumption | refine Ext.drew ?_ | refine Ext.drewN ?_ _ | refine Ext.alloc ?_ _ | refine Ext.trans ?_ (by assumption))))
        have R5 := Lib.hid r5
        have O5 := Lib.hid o5
        clear hw1 hw2 hw3 hw4 hw5 o1 o2 o3 o4 o5 r1 r2 r3 r4 r5
        rcases HK.out with hk | hk
        · have hkb : (x.kind == 1) = true := by simpa using hk
          have HK1 := Lib.hid hk
          clear hk
          go_wp2_with fail
          refine (wbytes_any A' n' c' x.val _ (KY.out.ext (X0A.trans (X5.out.trans (by with_reducible (repeat (first | exact Ext.rfl_ _ | assumption | refine Ext.drew ?_ | refine Ext.drewN ?_ _ | refine Ext.alloc ?_ _ | refine Ext.trans ?_ (by assumption))))))) (by unfold B40; omega)).mono ?_
          rintro e w6 ⟨v6, rfl, o6, hw6⟩
          obtain ⟨A6, n6, c6, rfl, l6, r6, i6⟩ := o6.formN
          go_wp2_with fail
          refine (join_any _ 2 2 [[numB ((k : Nat) : Int).toNat, bytB (x.key.drop k), numB x.seq.toNat, numB x.kind.toNat].flatten, bytB x.val] _ (RdBB.new2 (R5.out.ext (by with_reducible (repeat (first | exact Ext.rfl_ _ | assumption | refine Ext.drew ?_ | refine Ext.drewN ?_ _ | refine Ext.alloc ?_ _ | refine Ext.trans ?_ (by assumption))))) (r6.ext (by with_reducible (repeat (first | exact Ext.rfl_ _ | assumption | refine Ext.drew ?_ | refine Ext.drewN ?_ _ | refine Ext.alloc ?_ _ | refine Ext.trans ?_ (by assumption)))))) (by decide) (by rw [List.flatten_cons, List.length_append]; unfold B47; simp at hsum1 ⊢; omega)).mono ?_
          rintro e w7 ⟨v7, rfl, o7, hw7⟩
          have X7 : Ext wA w7 := X5.out.trans (by with_reducible (repeat (first | exact Ext.rfl_ _ | assumption | refine Ext.drew ?_ | refine Ext.drewN ?_ _ | refine Ext.alloc ?_ _ | refine Ext.trans ?_ (by assumption))))
          have base7 : w5.heap.size ≤ w6.heap.size := Ext.size (w := w5) (w' := w6) (by with_reducible (repeat (first | exact Ext.rfl_ _ | assumption | refine Ext.drew ?_ | refine Ext.drewN ?_ _ | refine Ext.alloc ?_ _ | refine Ext.trans ?_ (by assumption))))
          have base8 : wA.heap.size ≤ w5.heap.size := Ext.size X5.out
          go_wp2
          go_ret
          refine ⟨v7, rfl, ?_, ⟨_, _, k, X7.blk HGA.out, KX.out, hnc, by omega⟩, CA.out.ext X7⟩
          have e7 : OwnB w7 w.heap.size v7 [[numB ((k : Nat) : Int).toNat, bytB (x.key.drop k), numB x.seq.toNat, numB x.kind.toNat].flatten, bytB x.val].flatten := o7.mono (by rw [World.size_alloc]; omega)
          rw [blkE_put (k := k) (by first | rfl | (rw [KS.out]; rfl)) HK1.out]
          exact e7
        · have hkb : (x.kind == 1) = false := by simp; omega
          have HK1 := Lib.hid hk
          clear hk
          go_wp2
          go_ret
          refine ⟨_, rfl, ?_, ⟨_, _, k, X5.out.blk HGA.out, KX.out, hnc, by omega⟩, CA.out.ext X5.out⟩
          have e7 : OwnB w5 w.heap.size _ [numB ((k : Nat) : Int).toNat, bytB (x.key.drop k), numB x.seq.toNat, numB x.kind.toNat].flatten := O5.out.mono (by omega)
          rw [blkE_del (k := k) (by first | rfl | (rw [KS.out]; rfl)) (by rw [HK1.out]; decide)]
          exact e7
    · have KD : Rd w0 (some ⟨b, o + k, none⟩) (n - k) (x.key.drop k) := KX.out.tail hkn
      have hkc2 : k < c := by omega
      refine wp_region_held_drew (S := (fun w' => w'.cell? ⟨w.heap.size, 0, none⟩ = some (.slice (some ⟨b, o, none⟩) n c) ∧ w'.cell? ⟨w.heap.size, 1, none⟩ = some (.int .i64 x.seq) ∧ w'.cell? ⟨w.heap.size, 2, none⟩ = some (.int .i64 x.kind) ∧ w'.cell? ⟨w.heap.size, 3, none⟩ = some (.slice A' n' c') ∧ w'.frozen? ⟨w.heap.size, 0, none⟩ = false ∧ w'.frozen? ⟨w.heap.size, 1, none⟩ = false ∧ w'.frozen? ⟨w.heap.size, 2, none⟩ = false ∧ w'.frozen? ⟨w.heap.size, 3, none⟩ = false)) (by kernel_rfl) (by (try dsimp only); exact box4 HBX.out (by with_reducible (repeat (first | exact Ext.rfl_ _ | assumption | refine Ext.drew ?_ | refine Ext.drewN ?_ _ | refine Ext.alloc ?_ _ | refine Ext.trans ?_ (by assumption))))) (fun hHeld => ?_)
      refine wpAnyH_take (i := 0) (oi := ({ dst := some 16, op := Go.Op.move (Go.Operand.tmp 6), type := 3, pos := "block.go:40", after := #[], guard := none } : Go.Oper)) (v := ?v27) rfl (by kernel_rfl) (by kernel_rfl) (by kernel_rfl) (fun _ _ _ h => h) (Or.inl ⟨by rfl, ?hy27⟩) (by assumption) ?rest27
      case hy27 => (intro w hSw; (try dsimp only at hSw); go_simp; (try with_reducible rfl))
      (try simp only [Act.put, List.getElem_toArray, List.getElem_cons_zero, List.getElem_cons_succ, List.setIfInBounds_toArray, List.set_cons_zero, List.set_cons_succ])
      refine wpAnyH_take (i := 1) (oi := ({ dst := some 17, op := Go.Op.convert 3 84 (Go.Operand.tmp 16), type := 84, pos := "block.go:40", after := #[{ on := 0, ground := Go.Ground.data }], guard := none } : Go.Oper)) (v := ?v28) rfl (by kernel_rfl) (by kernel_rfl) (by kernel_rfl) (fun _ _ _ h => h) (Or.inl ⟨by rfl, ?hy28⟩) (by assumption) ?rest28
      case hy28 => (intro w hSw; (try dsimp only at hSw); go_simp; (try with_reducible rfl))
      (try simp only [Act.put, List.getElem_toArray, List.getElem_cons_zero, List.getElem_cons_succ, List.setIfInBounds_toArray, List.set_cons_zero, List.set_cons_succ])
      refine wpAnyH_take (i := 3) (oi := ({ dst := some 19, op := Go.Op.fieldAddr 28 (Go.Operand.tmp 3) 0, type := 0, pos := "block.go:40", after := #[], guard := none } : Go.Oper)) (v := ?v29) rfl (by kernel_rfl) (by kernel_rfl) (by kernel_rfl) (fun _ _ _ h => h) (Or.inl ⟨by rfl, ?hy29⟩) (by assumption) ?rest29
      case hy29 => (intro w hSw; (try dsimp only at hSw); go_simp; (try with_reducible rfl))
      (try simp only [Act.put, List.getElem_toArray, List.getElem_cons_zero, List.getElem_cons_succ, List.setIfInBounds_toArray, List.set_cons_zero, List.set_cons_succ])
      refine wpAnyH_take (i := 4) (oi := ({ dst := some 20, op := Go.Op.load 22 (Go.Operand.tmp 19), type := 22, pos := "block.go:40", after := #[{ on := 3, ground := Go.Ground.data }], guard := none } : Go.Oper)) (v := ?v30) rfl (by kernel_rfl) (by kernel_rfl) (by kernel_rfl) (fun _ _ _ h => h) (Or.inl ⟨by rfl, ?hy30⟩) (by assumption) ?rest30
      case hy30 => (intro w hSw; (try dsimp only at hSw); go_simp; (try with_reducible rfl))
      (try simp only [Act.put, List.getElem_toArray, List.getElem_cons_zero, List.getElem_cons_succ, List.setIfInBounds_toArray, List.set_cons_zero, List.set_cons_succ])
      refine wpAnyH_take (i := 5) (oi := ({ dst := some 21, op := Go.Op.move (Go.Operand.tmp 6), type := 3, pos := "block.go:40", after := #[], guard := none } : Go.Oper)) (v := ?v31) rfl (by kernel_rfl) (by kernel_rfl) (by kernel_rfl) (fun _ _ _ h => h) (Or.inl ⟨by rfl, ?hy31⟩) (by assumption) ?rest31
      case hy31 => (intro w hSw; (try dsimp only at hSw); go_simp; (try with_reducible rfl))
      (try simp only [Act.put, List.getElem_toArray, List.getElem_cons_zero, List.getElem_cons_succ, List.setIfInBounds_toArray, List.set_cons_zero, List.set_cons_succ])
      refine wpAnyH_take (i := 6) (oi := ({ dst := some 22, op := Go.Op.slice 22 (Go.Operand.tmp 20) (some (Go.Operand.tmp 21)) none none, type := 22, pos := "block.go:40", after := #[{ on := 4, ground := Go.Ground.data }, { on := 5, ground := Go.Ground.data }], guard := none } : Go.Oper)) (v := ?v32) rfl (by kernel_rfl) (by kernel_rfl) (by kernel_rfl) (fun _ _ _ h => h) (Or.inl ⟨by rfl, ?hy32⟩) (by assumption) ?rest32
      case hy32 => (intro w hSw; (try dsimp only at hSw); go_simp; (try with_reducible rfl))
      (try simp only [Act.put, List.getElem_toArray, List.getElem_cons_zero, List.getElem_cons_succ, List.setIfInBounds_toArray, List.set_cons_zero, List.set_cons_succ])
      refine wpAnyH_take (i := 8) (oi := ({ dst := some 24, op := Go.Op.fieldAddr 28 (Go.Operand.tmp 3) 1, type := 0, pos := "block.go:40", after := #[], guard := none } : Go.Oper)) (v := ?v33) rfl (by kernel_rfl) (by kernel_rfl) (by kernel_rfl) (fun _ _ _ h => h) (Or.inl ⟨by rfl, ?hy33⟩) (by assumption) ?rest33
      case hy33 => (intro w hSw; (try dsimp only at hSw); go_simp; (try with_reducible rfl))
      (try simp only [Act.put, List.getElem_toArray, List.getElem_cons_zero, List.getElem_cons_succ, List.setIfInBounds_toArray, List.set_cons_zero, List.set_cons_succ])
      refine wpAnyH_take (i := 9) (oi := ({ dst := some 25, op := Go.Op.load 2 (Go.Operand.tmp 24), type := 2, pos := "block.go:40", after := #[{ on := 8, ground := Go.Ground.data }], guard := none } : Go.Oper)) (v := ?v34) rfl (by kernel_rfl) (by kernel_rfl) (by kernel_rfl) (fun _ _ _ h => h) (Or.inl ⟨by rfl, ?hy34⟩) (by assumption) ?rest34
      case hy34 => (intro w hSw; (try dsimp only at hSw); go_simp; (try with_reducible rfl))
      (try simp only [Act.put, List.getElem_toArray, List.getElem_cons_zero, List.getElem_cons_succ, List.setIfInBounds_toArray, List.set_cons_zero, List.set_cons_succ])
      refine wpAnyH_take (i := 10) (oi := ({ dst := some 26, op := Go.Op.convert 2 84 (Go.Operand.tmp 25), type := 84, pos := "block.go:40", after := #[{ on := 9, ground := Go.Ground.data }], guard := none } : Go.Oper)) (v := ?v35) rfl (by kernel_rfl) (by kernel_rfl) (by kernel_rfl) (fun _ _ _ h => h) (Or.inl ⟨by rfl, ?hy35⟩) (by assumption) ?rest35
      case hy35 => (intro w hSw; (try dsimp only at hSw); go_simp; (try with_reducible rfl))
      (try simp only [Act.put, List.getElem_toArray, List.getElem_cons_zero, List.getElem_cons_succ, List.setIfInBounds_toArray, List.set_cons_zero, List.set_cons_succ])
      refine wpAnyH_take (i := 12) (oi := ({ dst := some 28, op := Go.Op.fieldAddr 28 (Go.Operand.tmp 3) 2, type := 0, pos := "block.go:40", after := #[], guard := none } : Go.Oper)) (v := ?v36) rfl (by kernel_rfl) (by kernel_rfl) (by kernel_rfl) (fun _ _ _ h => h) (Or.inl ⟨by rfl, ?hy36⟩) (by assumption) ?rest36
      case hy36 => (intro w hSw; (try dsimp only at hSw); go_simp; (try with_reducible rfl))
      (try simp only [Act.put, List.getElem_toArray, List.getElem_cons_zero, List.getElem_cons_succ, List.setIfInBounds_toArray, List.set_cons_zero, List.set_cons_succ])
      refine wpAnyH_take (i := 13) (oi := ({ dst := some 29, op := Go.Op.load 26 (Go.Operand.tmp 28), type := 26, pos := "block.go:40", after := #[{ on := 12, ground := Go.Ground.data }], guard := none } : Go.Oper)) (v := ?v37) rfl (by kernel_rfl) (by kernel_rfl) (by kernel_rfl) (fun _ _ _ h => h) (Or.inl ⟨by rfl, ?hy37⟩) (by assumption) ?rest37
      case hy37 => (intro w hSw; (try dsimp only at hSw); go_simp; (try with_reducible rfl))
      (try simp only [Act.put, List.getElem_toArray, List.getElem_cons_zero, List.getElem_cons_succ, List.setIfInBounds_toArray, List.set_cons_zero, List.set_cons_succ])
      refine wpAnyH_take (i := 14) (oi := ({ dst := some 30, op := Go.Op.convert 26 84 (Go.Operand.tmp 29), type := 84, pos := "block.go:40", after := #[{ on := 13, ground := Go.Ground.data }], guard := none } : Go.Oper)) (v := ?v38) rfl (by kernel_rfl) (by kernel_rfl) (by kernel_rfl) (fun _ _ _ h => h) (Or.inl ⟨by rfl, ?hy38⟩) (by assumption) ?rest38
      case hy38 => (intro w hSw; (try dsimp only at hSw); go_simp; (try with_reducible rfl))
      (try simp only [Act.put, List.getElem_toArray, List.getElem_cons_zero, List.getElem_cons_succ, List.setIfInBounds_toArray, List.set_cons_zero, List.set_cons_succ])
      refine wpAnyH_ready (rs := [2]) (by kernel_rfl) (by simp) ?_
      refine AllReadyH.cons (o := ({ dst := some 18, op := Go.Op.call { callee := Go.Callee.value (Go.Operand.func 71), args := #[Go.Operand.tmp 17], argTypes := #[84] }, type := 22, pos := "block.go:40", after := #[{ on := 1, ground := Go.Ground.data }], guard := none } : Go.Oper)) rfl (fun K hK => ?_) AllReadyH.nil
      go_simp
      (first | (go_at_call 72; refine (wbytes_any _ _ _ (x.key.drop k) _ (KD.ext (X0A.trans (by with_reducible (repeat (first | exact Ext.rfl_ _ | assumption | refine Ext.drew ?_ | refine Ext.drewN ?_ _ | refine Ext.alloc ?_ _ | refine Ext.trans ?_ (by assumption)))))) (by unfold B40; omega)).mono ?_; rintro e w2 ⟨v2, rfl, o2, hw2⟩; obtain ⟨A2, n2, c2, rfl, l2, r2, i2⟩ := o2.formN) | (go_at_call_of 71 (Value.int .u64 x.seq); refine (number_z x.seq _ (by omega) (by omega)).mono ?_; rintro e w3 ⟨v3, rfl, o3, hw3⟩; obtain ⟨A3, n3, c3, rfl, l3, r3, i3⟩ := o3.formN) | (go_at_call_of 71 (Value.int .u64 x.kind); refine (number_z x.kind _ (by omega) (by omega)).mono ?_; rintro e w4 ⟨v4, rfl, o4, hw4⟩; obtain ⟨A4, n4, c4, rfl, l4, r4, i4⟩ := o4.formN) | (go_at_call 70; refine (join_any _ 4 4 [numB ((k : Nat) : Int).toNat, bytB (x.key.drop k), numB x.seq.toNat, numB x.kind.toNat] _ (RdBB.new4 (r1.ext (by with_reducible (repeat (first | exact Ext.rfl_ _ | assumption | refine Ext.drew ?_ | refine Ext.drewN ?_ _ | refine Ext.alloc ?_ _ | refine Ext.trans ?_ (by assumption))))) (r2.ext (by with_reducible (repeat (first | exact Ext.rfl_ _ | assumption | refine Ext.drew ?_ | refine Ext.drewN ?_ _ | refine Ext.alloc ?_ _ | refine Ext.trans ?_ (by assumption))))) (r3.ext (by with_reducible (repeat (first | exact Ext.rfl_ _ | assumption | refine Ext.drew ?_ | refine Ext.drewN ?_ _ | refine Ext.alloc ?_ _ | refine Ext.trans ?_ (by assumption))))) (r4.ext (by with_reducible (repeat (first | exact Ext.rfl_ _ | assumption | refine Ext.drew ?_ | refine Ext.drewN ?_ _ | refine Ext.alloc ?_ _ | refine Ext.trans ?_ (by assumption)))))) (by decide) (by unfold B47; omega)).mono ?_; rintro e w5 ⟨v5, rfl, o5, hw5⟩; obtain ⟨A5, n5, c5, rfl, l5, r5, i5⟩ := o5.formN) | (go_at_call 71; refine (number_z (k : Int) _ (by omega) (by omega)).mono ?_; rintro e w1 ⟨v1, rfl, o1, hw1⟩; obtain ⟨A1, n1, c1, rfl, l1, r1, i1⟩ := o1.formN))
      (try (go_wp2_with fail))
      refine hK.out _ _ (by (try dsimp only); exact box4 HBX.out (by with_reducible (repeat (first | exact Ext.rfl_ _ | assumption | refine Ext.drew ?_ | refine Ext.drewN ?_ _ | refine Ext.alloc ?_ _ | refine Ext.trans ?_ (by assumption))))) (fun hHeld => ?_)
      clear hK K
      (try simp only [Act.put, List.getElem_toArray, List.getElem_cons_zero, List.getElem_cons_succ, List.setIfInBounds_toArray, List.set_cons_zero, List.set_cons_succ])
      refine wpAnyH_ready (rs := [7]) (by kernel_rfl) (by simp) ?_
      refine AllReadyH.cons (o := ({ dst := some 23, op := Go.Op.call { callee := Go.Callee.value (Go.Operand.func 72), args := #[Go.Operand.tmp 22], argTypes := #[22] }, type := 22, pos := "block.go:40", after := #[{ on := 6, ground := Go.Ground.data }, { on := 2, ground := Go.Ground.chain }], guard := none } : Go.Oper)) rfl (fun K hK => ?_) AllReadyH.nil
      go_simp
      (first | (go_at_call 72; refine (wbytes_any _ _ _ (x.key.drop k) _ (KD.ext (X0A.trans (by with_reducible (repeat (first | exact Ext.rfl_ _ | assumption | refine Ext.drew ?_ | refine Ext.drewN ?_ _ | refine Ext.alloc ?_ _ | refine Ext.trans ?_ (by assumption)))))) (by unfold B40; omega)).mono ?_; rintro e w2 ⟨v2, rfl, o2, hw2⟩; obtain ⟨A2, n2, c2, rfl, l2, r2, i2⟩ := o2.formN) | (go_at_call_of 71 (Value.int .u64 x.seq); refine (number_z x.seq _ (by omega) (by omega)).mono ?_; rintro e w3 ⟨v3, rfl, o3, hw3⟩; obtain ⟨A3, n3, c3, rfl, l3, r3, i3⟩ := o3.formN) | (go_at_call_of 71 (Value.int .u64 x.kind); refine (number_z x.kind _ (by omega) (by omega)).mono ?_; rintro e w4 ⟨v4, rfl, o4, hw4⟩; obtain ⟨A4, n4, c4, rfl, l4, r4, i4⟩ := o4.formN) | (go_at_call 70; refine (join_any _ 4 4 [numB ((k : Nat) : Int).toNat, bytB (x.key.drop k), numB x.seq.toNat, numB x.kind.toNat] _ (RdBB.new4 (r1.ext (by with_reducible (repeat (first | exact Ext.rfl_ _ | assumption | refine Ext.drew ?_ | refine Ext.drewN ?_ _ | refine Ext.alloc ?_ _ | refine Ext.trans ?_ (by assumption))))) (r2.ext (by with_reducible (repeat (first | exact Ext.rfl_ _ | assumption | refine Ext.drew ?_ | refine Ext.drewN ?_ _ | refine Ext.alloc ?_ _ | refine Ext.trans ?_ (by assumption))))) (r3.ext (by with_reducible (repeat (first | exact Ext.rfl_ _ | assumption | refine Ext.drew ?_ | refine Ext.drewN ?_ _ | refine Ext.alloc ?_ _ | refine Ext.trans ?_ (by assumption))))) (r4.ext (by with_reducible (repeat (first | exact Ext.rfl_ _ | assumption | refine Ext.drew ?_ | refine Ext.drewN ?_ _ | refine Ext.alloc ?_ _ | refine Ext.trans ?_ (by assumption)))))) (by decide) (by unfold B47; omega)).mono ?_; rintro e w5 ⟨v5, rfl, o5, hw5⟩; obtain ⟨A5, n5, c5, rfl, l5, r5, i5⟩ := o5.formN) | (go_at_call 71; refine (number_z (k : Int) _ (by omega) (by omega)).mono ?_; rintro e w1 ⟨v1, rfl, o1, hw1⟩; obtain ⟨A1, n1, c1, rfl, l1, r1, i1⟩ := o1.formN))
      (try (go_wp2_with fail))
      refine hK.out _ _ (by (try dsimp only); exact box4 HBX.out (by with_reducible (repeat (first | exact Ext.rfl_ _ | assumption | refine Ext.drew ?_ | refine Ext.drewN ?_ _ | refine Ext.alloc ?_ _ | refine Ext.trans ?_ (by assumption))))) (fun hHeld => ?_)
      clear hK K
      (try simp only [Act.put, List.getElem_toArray, List.getElem_cons_zero, List.getElem_cons_succ, List.setIfInBounds_toArray, List.set_cons_zero, List.set_cons_succ])
      refine wpAnyH_ready (rs := [11]) (by kernel_rfl) (by simp) ?_
      refine AllReadyH.cons (o := ({ dst := some 27, op := Go.Op.call { callee := Go.Callee.value (Go.Operand.func 71), args := #[Go.Operand.tmp 26], argTypes := #[84] }, type := 22, pos := "block.go:40", after := #[{ on := 10, ground := Go.Ground.data }, { on := 7, ground := Go.Ground.chain }], guard := none } : Go.Oper)) rfl (fun K hK => ?_) AllReadyH.nil
      go_simp
      (first | (go_at_call 72; refine (wbytes_any _ _ _ (x.key.drop k) _ (KD.ext (X0A.trans (by with_reducible (repeat (first | exact Ext.rfl_ _ | assumption | refine Ext.drew ?_ | refine Ext.drewN ?_ _ | refine Ext.alloc ?_ _ | refine Ext.trans ?_ (by assumption)))))) (by unfold B40; omega)).mono ?_; rintro e w2 ⟨v2, rfl, o2, hw2⟩; obtain ⟨A2, n2, c2, rfl, l2, r2, i2⟩ := o2.formN) | (go_at_call_of 71 (Value.int .u64 x.seq); refine (number_z x.seq _ (by omega) (by omega)).mono ?_; rintro e w3 ⟨v3, rfl, o3, hw3⟩; obtain ⟨A3, n3, c3, rfl, l3, r3, i3⟩ := o3.formN) | (go_at_call_of 71 (Value.int .u64 x.kind); refine (number_z x.kind _ (by omega) (by omega)).mono ?_; rintro e w4 ⟨v4, rfl, o4, hw4⟩; obtain ⟨A4, n4, c4, rfl, l4, r4, i4⟩ := o4.formN) | (go_at_call 70; refine (join_any _ 4 4 [numB ((k : Nat) : Int).toNat, bytB (x.key.drop k), numB x.seq.toNat, numB x.kind.toNat] _ (RdBB.new4 (r1.ext (by with_reducible (repeat (first | exact Ext.rfl_ _ | assumption | refine Ext.drew ?_ | refine Ext.drewN ?_ _ | refine Ext.alloc ?_ _ | refine Ext.trans ?_ (by assumption))))) (r2.ext (by with_reducible (repeat (first | exact Ext.rfl_ _ | assumption | refine Ext.drew ?_ | refine Ext.drewN ?_ _ | refine Ext.alloc ?_ _ | refine Ext.trans ?_ (by assumption))))) (r3.ext (by with_reducible (repeat (first | exact Ext.rfl_ _ | assumption | refine Ext.drew ?_ | refine Ext.drewN ?_ _ | refine Ext.alloc ?_ _ | refine Ext.trans ?_ (by assumption))))) (r4.ext (by with_reducible (repeat (first | exact Ext.rfl_ _ | assumption | refine Ext.drew ?_ | refine Ext.drewN ?_ _ | refine Ext.alloc ?_ _ | refine Ext.trans ?_ (by assumption)))))) (by decide) (by unfold B47; omega)).mono ?_; rintro e w5 ⟨v5, rfl, o5, hw5⟩; obtain ⟨A5, n5, c5, rfl, l5, r5, i5⟩ := o5.formN) | (go_at_call 71; refine (number_z (k : Int) _ (by omega) (by omega)).mono ?_; rintro e w1 ⟨v1, rfl, o1, hw1⟩; obtain ⟨A1, n1, c1, rfl, l1, r1, i1⟩ := o1.formN))
      (try (go_wp2_with fail))
      refine hK.out _ _ (by (try dsimp only); exact box4 HBX.out (by with_reducible (repeat (first | exact Ext.rfl_ _ | assumption | refine Ext.drew ?_ | refine Ext.drewN ?_ _ | refine Ext.alloc ?_ _ | refine Ext.trans ?_ (by assumption))))) (fun hHeld => ?_)
      clear hK K
      (try simp only [Act.put, List.getElem_toArray, List.getElem_cons_zero, List.getElem_cons_succ, List.setIfInBounds_toArray, List.set_cons_zero, List.set_cons_succ])
      refine wpAnyH_ready (rs := [15]) (by kernel_rfl) (by simp) ?_
      refine AllReadyH.cons (o := ({ dst := some 31, op := Go.Op.call { callee := Go.Callee.value (Go.Operand.func 71), args := #[Go.Operand.tmp 30], argTypes := #[84] }, type := 22, pos := "block.go:40", after := #[{ on := 14, ground := Go.Ground.data }, { on := 11, ground := Go.Ground.chain }], guard := none } : Go.Oper)) rfl (fun K hK => ?_) AllReadyH.nil
      go_simp
      (first | (go_at_call 72; refine (wbytes_any _ _ _ (x.key.drop k) _ (KD.ext (X0A.trans (by with_reducible (repeat (first | exact Ext.rfl_ _ | assumption | refine Ext.drew ?_ | refine Ext.drewN ?_ _ | refine Ext.alloc ?_ _ | refine Ext.trans ?_ (by assumption)))))) (by unfold B40; omega)).mono ?_; rintro e w2 ⟨v2, rfl, o2, hw2⟩; obtain ⟨A2, n2, c2, rfl, l2, r2, i2⟩ := o2.formN) | (go_at_call_of 71 (Value.int .u64 x.seq); refine (number_z x.seq _ (by omega) (by omega)).mono ?_; rintro e w3 ⟨v3, rfl, o3, hw3⟩; obtain ⟨A3, n3, c3, rfl, l3, r3, i3⟩ := o3.formN) | (go_at_call_of 71 (Value.int .u64 x.kind); refine (number_z x.kind _ (by omega) (by omega)).mono ?_; rintro e w4 ⟨v4, rfl, o4, hw4⟩; obtain ⟨A4, n4, c4, rfl, l4, r4, i4⟩ := o4.formN) | (go_at_call 70; refine (join_any _ 4 4 [numB ((k : Nat) : Int).toNat, bytB (x.key.drop k), numB x.seq.toNat, numB x.kind.toNat] _ (RdBB.new4 (r1.ext (by with_reducible (repeat (first | exact Ext.rfl_ _ | assumption | refine Ext.drew ?_ | refine Ext.drewN ?_ _ | refine Ext.alloc ?_ _ | refine Ext.trans ?_ (by assumption))))) (r2.ext (by with_reducible (repeat (first | exact Ext.rfl_ _ | assumption | refine Ext.drew ?_ | refine Ext.drewN ?_ _ | refine Ext.alloc ?_ _ | refine Ext.trans ?_ (by assumption))))) (r3.ext (by with_reducible (repeat (first | exact Ext.rfl_ _ | assumption | refine Ext.drew ?_ | refine Ext.drewN ?_ _ | refine Ext.alloc ?_ _ | refine Ext.trans ?_ (by assumption))))) (r4.ext (by with_reducible (repeat (first | exact Ext.rfl_ _ | assumption | refine Ext.drew ?_ | refine Ext.drewN ?_ _ | refine Ext.alloc ?_ _ | refine Ext.trans ?_ (by assumption)))))) (by decide) (by unfold B47; omega)).mono ?_; rintro e w5 ⟨v5, rfl, o5, hw5⟩; obtain ⟨A5, n5, c5, rfl, l5, r5, i5⟩ := o5.formN) | (go_at_call 71; refine (number_z (k : Int) _ (by omega) (by omega)).mono ?_; rintro e w1 ⟨v1, rfl, o1, hw1⟩; obtain ⟨A1, n1, c1, rfl, l1, r1, i1⟩ := o1.formN))
      (try (go_wp2_with fail))
      refine hK.out _ _ (by (try dsimp only); exact box4 HBX.out (by with_reducible (repeat (first | exact Ext.rfl_ _ | assumption | refine Ext.drew ?_ | refine Ext.drewN ?_ _ | refine Ext.alloc ?_ _ | refine Ext.trans ?_ (by assumption))))) (fun hHeld => ?_)
      clear hK K
      (try simp only [Act.put, List.getElem_toArray, List.getElem_cons_zero, List.getElem_cons_succ, List.setIfInBounds_toArray, List.set_cons_zero, List.set_cons_succ])
      refine wpAnyH_ready (rs := [16]) (by kernel_rfl) (by simp) ?_
      refine AllReadyH.cons (o := ({ dst := some 32, op := Go.Op.buildSlice 100 4 #[(0, Go.Operand.tmp 18), (1, Go.Operand.tmp 23), (2, Go.Operand.tmp 27), (3, Go.Operand.tmp 31)], type := 100, pos := "block.go:40", after := #[{ on := 2, ground := Go.Ground.data }, { on := 7, ground := Go.Ground.data }, { on := 11, ground := Go.Ground.data }, { on := 15, ground := Go.Ground.data }], guard := none } : Go.Oper)) rfl (fun K hK => ?_) AllReadyH.nil
      go_simp
      refine hK.out _ _ (by (try dsimp only); exact box4 HBX.out (by with_reducible (repeat (first | exact Ext.rfl_ _ | assumption | refine Ext.drew ?_ | refine Ext.drewN ?_ _ | refine Ext.alloc ?_ _ | refine Ext.trans ?_ (by assumption))))) (fun hHeld => ?_)
      clear hK K
      (try simp only [Act.put, List.getElem_toArray, List.getElem_cons_zero, List.getElem_cons_succ, List.setIfInBounds_toArray, List.set_cons_zero, List.set_cons_succ])
      refine wpAnyH_ready (rs := [17]) (by kernel_rfl) (by simp) ?_
      refine AllReadyH.cons (o := ({ dst := some 33, op := Go.Op.call { callee := Go.Callee.value (Go.Operand.func 70), args := #[Go.Operand.tmp 32], argTypes := #[100] }, type := 22, pos := "block.go:40", after := #[{ on := 16, ground := Go.Ground.data }, { on := 15, ground := Go.Ground.chain }], guard := none } : Go.Oper)) rfl (fun K hK => ?_) AllReadyH.nil
      go_simp
      (first | (go_at_call 72; refine (wbytes_any _ _ _ (x.key.drop k) _ (KD.ext (X0A.trans (by with_reducible (repeat (first | exact Ext.rfl_ _ | assumption | refine Ext.drew ?_ | refine Ext.drewN ?_ _ | refine Ext.alloc ?_ _ | refine Ext.trans ?_ (by assumption)))))) (by unfold B40; omega)).mono ?_; rintro e w2 ⟨v2, rfl, o2, hw2⟩; obtain ⟨A2, n2, c2, rfl, l2, r2, i2⟩ := o2.formN) | (go_at_call_of 71 (Value.int .u64 x.seq); refine (number_z x.seq _ (by omega) (by omega)).mono ?_; rintro e w3 ⟨v3, rfl, o3, hw3⟩; obtain ⟨A3, n3, c3, rfl, l3, r3, i3⟩ := o3.formN) | (go_at_call_of 71 (Value.int .u64 x.kind); refine (number_z x.kind _ (by omega) (by omega)).mono ?_; rintro e w4 ⟨v4, rfl, o4, hw4⟩; obtain ⟨A4, n4, c4, rfl, l4, r4, i4⟩ := o4.formN) | (go_at_call 70; refine (join_any _ 4 4 [numB ((k : Nat) : Int).toNat, bytB (x.key.drop k), numB x.seq.toNat, numB x.kind.toNat] _ (RdBB.new4 (r1.ext (by with_reducible (repeat (first | exact Ext.rfl_ _ | assumption | refine Ext.drew ?_ | refine Ext.drewN ?_ _ | refine Ext.alloc ?_ _ | refine Ext.trans ?_ (by assumption))))) (r2.ext (by with_reducible (repeat (first | exact Ext.rfl_ _ | assumption | refine Ext.drew ?_ | refine Ext.drewN ?_ _ | refine Ext.alloc ?_ _ | refine Ext.trans ?_ (by assumption))))) (r3.ext (by with_reducible (repeat (first | exact Ext.rfl_ _ | assumption | refine Ext.drew ?_ | refine Ext.drewN ?_ _ | refine Ext.alloc ?_ _ | refine Ext.trans ?_ (by assumption))))) (r4.ext (by with_reducible (repeat (first | exact Ext.rfl_ _ | assumption | refine Ext.drew ?_ | refine Ext.drewN ?_ _ | refine Ext.alloc ?_ _ | refine Ext.trans ?_ (by assumption)))))) (by decide) (by unfold B47; omega)).mono ?_; rintro e w5 ⟨v5, rfl, o5, hw5⟩; obtain ⟨A5, n5, c5, rfl, l5, r5, i5⟩ := o5.formN) | (go_at_call 71; refine (number_z (k : Int) _ (by omega) (by omega)).mono ?_; rintro e w1 ⟨v1, rfl, o1, hw1⟩; obtain ⟨A1, n1, c1, rfl, l1, r1, i1⟩ := o1.formN))
      (try (go_wp2_with fail))
      refine hK.out _ _ (by (try dsimp only); exact box4 HBX.out (by with_reducible (repeat (first | exact Ext.rfl_ _ | assumption | refine Ext.drew ?_ | refine Ext.drewN ?_ _ | refine Ext.alloc ?_ _ | refine Ext.trans ?_ (by assumption))))) (fun hHeld => ?_)
      clear hK K
      (try simp only [Act.put, List.getElem_toArray, List.getElem_cons_zero, List.getElem_cons_succ, List.setIfInBounds_toArray, List.set_cons_zero, List.set_cons_succ])
      refine wpAnyH_take (i := 18) (oi := ({ dst := some 7, op := Go.Op.assign (Go.Operand.tmp 33), type := 22, pos := "block.go:40", after := #[{ on := 17, ground := Go.Ground.data }, { on := 17, ground := Go.Ground.chain }, { on := 0, ground := Go.Ground.phase }, { on := 1, ground := Go.Ground.phase }, { on := 2, ground := Go.Ground.phase }, { on := 3, ground := Go.Ground.phase }, { on := 4, ground := Go.Ground.phase }, { on := 5, ground := Go.Ground.phase }, { on := 6, ground := Go.Ground.phase }, { on := 7, ground := Go.Ground.phase }, { on := 8, ground := Go.Ground.phase }, { on := 9, ground := Go.Ground.phase }, { on := 10, ground := Go.Ground.phase }, { on := 11, ground := Go.Ground.phase }, { on := 12, ground := Go.Ground.phase }, { on := 13, ground := Go.Ground.phase }, { on := 14, ground := Go.Ground.phase }, { on := 15, ground := Go.Ground.phase }, { on := 16, ground := Go.Ground.phase }, { on := 17, ground := Go.Ground.phase }], guard := none } : Go.Oper)) (v := ?v39) rfl (by kernel_rfl) (by kernel_rfl) (by kernel_rfl) (fun _ _ _ h => h) (Or.inl ⟨by rfl, ?hy39⟩) (by assumption) ?rest39
      case hy39 => (intro w hSw; (try dsimp only at hSw); go_simp; (try with_reducible rfl))
      (try simp only [Act.put, List.getElem_toArray, List.getElem_cons_zero, List.getElem_cons_succ, List.setIfInBounds_toArray, List.set_cons_zero, List.set_cons_succ])
      refine wpAnyH_done (by kernel_rfl) ?_ _
      all_goals
        have X5 := Lib.hid (show Ext wA w5 from (by with_reducible (repeat (first | exact Ext.rfl_ _ | assumption | refine Ext.drew ?_ | refine Ext.drewN ?_ _ | refine Ext.alloc ?_ _ | refine Ext.trans ?_ (by assumption)))))
        obtain ⟨g0, g1, g2, g3, f0, f1, f2, f3⟩ := box4 HBX.out X5.out
        have base5 : wA.heap.size ≤ (w4.alloc (.cells #[.slice A1 n1 c1, .slice A2 n2 c2, .slice A3 n3 c3, .slice A4 n4 c4] 22)).heap.size := Ext.size (w := wA) (w' := w4.alloc _) (by with_reducible (repeat (first | exact Ext.rfl_ _ | assumption | refine Ext.drew ?_ | refine Ext.drewN ?_ _ | refine Ext.alloc ?_ _ | refine Ext.trans ?_ (by assumption))))
        have R5 := Lib.hid r5
        have O5 := Lib.hid o5
        clear hw1 hw2 hw3 hw4 hw5 o1 o2 o3 o4 o5 r1 r2 r3 r4 r5
        rcases HK.out with hk | hk
        · have hkb : (x.kind == 1) = true := by simpa using hk
          have HK1 := Lib.hid hk
          clear hk
          go_wp2_with fail
          refine (wbytes_any A' n' c' x.val _ (KY.out.ext (X0A.trans (X5.out.trans (by with_reducible (repeat (first | exact Ext.rfl_ _ | assumption | refine Ext.drew ?_ | refine Ext.drewN ?_ _ | refine Ext.alloc ?_ _ | refine Ext.trans ?_ (by assumption))))))) (by unfold B40; omega)).mono ?_
          rintro e w6 ⟨v6, rfl, o6, hw6⟩
          obtain ⟨A6, n6, c6, rfl, l6, r6, i6⟩ := o6.formN
          go_wp2_with fail
          refine (join_any _ 2 2 [[numB ((k : Nat) : Int).toNat, bytB (x.key.drop k), numB x.seq.toNat, numB x.kind.toNat].flatten, bytB x.val] _ (RdBB.new2 (R5.out.ext (by with_reducible (repeat (first | exact Ext.rfl_ _ | assumption | refine Ext.drew ?_ | refine Ext.drewN ?_ _ | refine Ext.alloc ?_ _ | refine Ext.trans ?_ (by assumption))))) (r6.ext (by with_reducible (repeat (first | exact Ext.rfl_ _ | assumption | refine Ext.drew ?_ | refine Ext.drewN ?_ _ | refine Ext.alloc ?_ _ | refine Ext.trans ?_ (by assumption)))))) (by decide) (by rw [List.flatten_cons, List.length_append]; unfold B47; simp at hsum1 ⊢; omega)).mono ?_
          rintro e w7 ⟨v7, rfl, o7, hw7⟩
          have X7 : Ext wA w7 := X5.out.trans (by with_reducible (repeat (first | exact Ext.rfl_ _ | assumption | refine Ext.drew ?_ | refine Ext.drewN ?_ _ | refine Ext.alloc ?_ _ | refine Ext.trans ?_ (by assumption))))
          have base7 : w5.heap.size ≤ w6.heap.size := Ext.size (w := w5) (w' := w6) (by with_reducible (repeat (first | exact Ext.rfl_ _ | assumption | refine Ext.drew ?_ | refine Ext.drewN ?_ _ | refine Ext.alloc ?_ _ | refine Ext.trans ?_ (by assumption))))
          have base8 : wA.heap.size ≤ w5.heap.size := Ext.size X5.out
          go_wp2
          go_ret
          refine ⟨v7, rfl, ?_, ⟨_, _, c, X7.blk HGA.out, KX.out, hnc, by omega⟩, CA.out.ext X7⟩
          have e7 : OwnB w7 w.heap.size v7 [[numB ((k : Nat) : Int).toNat, bytB (x.key.drop k), numB x.seq.toNat, numB x.kind.toNat].flatten, bytB x.val].flatten := o7.mono (by rw [World.size_alloc]; omega)
          rw [blkE_put (k := k) (by first | rfl | (rw [KS.out]; rfl)) HK1.out]
          exact e7
        · have hkb : (x.kind == 1) = false := by simp; omega
          have HK1 := Lib.hid hk
          clear hk
          go_wp2
          go_ret
          refine ⟨_, rfl, ?_, ⟨_, _, c, X5.out.blk HGA.out, KX.out, hnc, by omega⟩, CA.out.ext X5.out⟩
          have e7 : OwnB w5 w.heap.size _ [numB ((k : Nat) : Int).toNat, bytB (x.key.drop k), numB x.seq.toNat, numB x.kind.toNat].flatten := O5.out.mono (by omega)
          rw [blkE_del (k := k) (by first | rfl | (rw [KS.out]; rfl)) (by rw [HK1.out]; decide)]
          exact e7

set_option maxRecDepth 100000 in
theorem writer_any (w : World) : Calls Try.prog 46 #[] w fun e w' => ∃ g, e = .returned (.func (.func 69) #[] #[.pointer (some ⟨g, 0, none⟩)]) ∧ w.heap.size ≤ g ∧ WBox w w' g [] ∧ Ext w w' := by
  go_enter Try.func46, Try.ntmps46
  go_wp2
  go_ret
  exact ⟨_, rfl, Nat.le_refl _, ⟨none, 0, 0, blk1 _ _, Rd.nil _ _, Nat.le_refl _, Nat.zero_le _⟩, (by with_reducible (repeat (first | exact Ext.rfl_ _ | assumption | refine Ext.drew ?_ | refine Ext.drewN ?_ _ | refine Ext.alloc ?_ _ | refine Ext.trans ?_ (by assumption))))⟩

end Go.Proofs.Ythfhococglbpoaa
