/- Contracts of the block's writer and of the closure that it hands out. Conditions: the entry may be; the box holds the key before. -/
/- Contracts of block.Write and block.Size. Conditions: the entries read. -/
import Derived.Test.YthfhococglbpoaaBlkA
import Derived.Test.YthfhococglbpoaaKeyC
import Derived.Test.YthfhococglbpoaaSkM
import Derived.Test.YthfhococglbpoaaRising
import Derived.Test.YthfhococglbpoaaRf6Q
namespace Go.Proofs.Ythfhococglbpoaa
set_option linter.unusedSimpArgs false
set_option linter.unusedVariables false
open Go.RowKit

theorem RdBB.new4 {w : World} {t : TypeId} {A0 A1 A2 A3 : Option Addr} {n0 n1 n2 n3 c0 c1 c2 c3 : Nat} {x0 x1 x2 x3 : Bs} (h0 : Rd w A0 n0 x0) (h1 : Rd w A1 n1 x1) (h2 : Rd w A2 n2 x2) (h3 : Rd w A3 n3 x3) :
    RdBB (w.alloc (.cells #[.slice A0 n0 c0, .slice A1 n1 c1, .slice A2 n2 c2, .slice A3 n3 c3] t)) (some ⟨w.heap.size, 0, none⟩) 4 [x0, x1, x2, x3] := by
  have hb := heap_alloc_new w (.cells #[.slice A0 n0 c0, .slice A1 n1 c1, .slice A2 n2 c2, .slice A3 n3 c3] t)
  have ha := Ext.alloc (Ext.rfl_ w) (.cells #[.slice A0 n0 c0, .slice A1 n1 c1, .slice A2 n2 c2, .slice A3 n3 c3] t)
  refine ⟨rfl, fun _ => ⟨w.heap.size, 0, rfl, fun j hj => ?_⟩⟩
  match j, hj with
  | 0, _ => exact ⟨A0, n0, c0, by unfold World.cell?; simp only [hb]; rfl, h0.ext ha⟩
  | 1, _ => exact ⟨A1, n1, c1, by unfold World.cell?; simp only [hb]; rfl, h1.ext ha⟩
  | 2, _ => exact ⟨A2, n2, c2, by unfold World.cell?; simp only [hb]; rfl, h2.ext ha⟩
  | 3, _ => exact ⟨A3, n3, c3, by unfold World.cell?; simp only [hb]; rfl, h3.ext ha⟩

/-- The writer's box: the key before. -/
def WBox (w0 w : World) (g : Nat) (p : Bs) : Prop := ∃ B m d, w.heap[g]? = some (.cells #[.slice B m d] 22 (0, 0)) ∧ Rd w0 B m p ∧ m ≤ d ∧ m ≤ 65536

theorem setAlloc {w : World} {g : Nat} (hg : g < w.heap.size) {v : Value} {o : Obj} : (w.alloc o).setCell ⟨g, 0, none⟩ v = (w.setCell ⟨g, 0, none⟩ v).alloc o := by
  rw [World.setCell_alloc_past o g 0 v hg]
theorem blkE_put {p : Bs} {r : Bool} {e : Ent} {k : Nat} (hk : (if r then 0 else shr p e.key) = k) (h : e.kind = 1) : blkE p r e = [[numB k, bytB (e.key.drop k), numB e.seq.toNat, numB e.kind.toNat].flatten, bytB e.val].flatten := by
  unfold blkE
  rw [hk, if_pos h]
  simp [List.append_assoc]
theorem blkE_del {p : Bs} {r : Bool} {e : Ent} {k : Nat} (hk : (if r then 0 else shr p e.key) = k) (h : ¬ e.kind = 1) : blkE p r e = [numB k, bytB (e.key.drop k), numB e.seq.toNat, numB e.kind.toNat].flatten := by
  unfold blkE
  rw [hk, if_neg h]
  simp [List.append_assoc]
theorem wrA {w0 w w1 wA : World} {g : Nat} {K B : Option Addr} {n c m d : Nat} {o : Obj} (h : wA = w1.setCell ⟨g, 0, none⟩ (.slice K n c)) (h0 : Ext w0 w) (hg0 : w0.heap.size ≤ g) (hg : w.heap[g]? = some (.cells #[.slice B m d] 22 (0, 0))) (hb : (w.alloc o).heap[w.heap.size]? = some o) (h1 : Ext (w.alloc o) w1) :
    Ext w0 wA ∧ Hid (Chg g w wA) ∧ Hid (wA.heap[w.heap.size]? = some o) ∧ Hid (wA.heap[g]? = some (.cells #[.slice K n c] 22 (0, 0))) := by
  subst h
  have x1 : Ext w w1 := (Ext.alloc (Ext.rfl_ w) o).trans h1
  have hgw : g < w.heap.size := (Array.getElem?_eq_some_iff.1 hg).1
  refine ⟨(h0.trans x1).setCell hg0 _, Lib.hid ((Chg.of_ext x1).setCell 0 _), Lib.hid ?_, Lib.hid ?_⟩
  · have := h1.blk hb
    simp [World.setCell, Array.getElem?_modify, this]
    omega
  · have := x1.blk hg
    simp [World.setCell, Array.getElem?_modify, this]

set_option maxRecDepth 100000 in
set_option maxHeartbeats 4000000 in
theorem writer1_any (u : Value) (x : Ent) (r : Bool) (g : Nat) (p : Bs) (w0 w : World) (h0 : Ext w0 w) (hg0 : w0.heap.size ≤ g) (hbx : WBox w0 w g p) (hx : RdE w0 u x) (hm : mayE x = true) :
    Calls Try.prog 69 #[u, .bool r, .pointer (some ⟨g, 0, none⟩)] w fun e w' => ∃ v', e = .returned v' ∧ OwnB w' w.heap.size v' (blkE p r x) ∧ WBox w0 w' g x.key ∧ Chg g w w' := by
  have hM := mayE_iff.1 hm
  obtain ⟨A, n, c, A', n', c', rfl, hx1, hx2, hnc, h2, hnc', h4⟩ := hx
  obtain ⟨B, m, d, hg, hp, hmd, hm16⟩ := hbx
  have e1 := hx1.1
  have e2 := hx2.1
  have hb := blk1 w (.cells #[.slice A n c, .int .i64 x.seq, .int .i64 x.kind, .slice A' n' c'] 28)
  have hbox := Lib.hid hb
  clear hb
  have hl0 : 1 ≤ n := by rw [← e1]; exact hM.1
  have hl1 : n ≤ 32 := by rw [← e1]; exact hM.2.1
  have hs1 : 1 ≤ x.seq := hM.2.2.1
  have hs2 : x.seq ≤ 2147483647 := hM.2.2.2.1
  have hl2 : n' ≤ 65536 := by rw [← e2]; exact hM.2.2.2.2.1
  have hk12 : x.kind = 1 ∨ x.kind = 2 := hM.2.2.2.2.2.imp id (fun h => h.1)
  have hk1 : 1 ≤ x.kind := by omega
  have hk2 : x.kind ≤ 2 := by omega
  clear hM
  have hsl := shr_le p x.key
  have j2 := numB_length x.seq.toNat
  have j3 := numB_length x.kind.toNat
  have j4 : (bytB x.val).length ≤ 65546 := by unfold bytB; have := numB_length x.val.length; simp; omega
  have hq1 : IntKind.u64.wrap x.seq = x.seq := by rw [IntKind.wrap_u64]; omega
  have hq2 : IntKind.u64.wrap x.kind = x.kind := by rw [IntKind.wrap_u64]; omega
  have HK := Lib.hid hk12
  have KX := Lib.hid hx1
  have KY := Lib.hid hx2
  have KP := Lib.hid hp
  have H0 := Lib.hid h0
  have HG := Lib.hid hg
  have E1 := Lib.hid e1
  clear hk12 e1 e2 hx1 hx2 hp hm
  obtain ⟨b, o, rfl, _⟩ := KX.out.at_ (by omega)
  have hgw : g < w.heap.size := (Array.getElem?_eq_some_iff.1 hg).1
  have hcg : (w.alloc (.cells #[.slice (some ⟨b, o, none⟩) n c, .int .i64 x.seq, .int .i64 x.kind, .slice A' n' c'] 28)).cell? ⟨g, 0, none⟩ = some (.slice B m d) := by
    have := (Ext.alloc (Ext.rfl_ w) (.cells #[.slice (some ⟨b, o, none⟩) n c, .int .i64 x.seq, .int .i64 x.kind, .slice A' n' c'] 28)).blk hg
    simp [World.cell?, this]
  have hfg : (w.alloc (.cells #[.slice (some ⟨b, o, none⟩) n c, .int .i64 x.seq, .int .i64 x.kind, .slice A' n' c'] 28)).frozen? ⟨g, 0, none⟩ = false := by
    have := (Ext.alloc (Ext.rfl_ w) (.cells #[.slice (some ⟨b, o, none⟩) n c, .int .i64 x.seq, .int .i64 x.kind, .slice A' n' c'] 28)).blk hg
    simp [World.frozen?, this]
  have hG1 := (Ext.alloc (Ext.rfl_ w) (.cells #[.slice (some ⟨b, o, none⟩) n c, .int .i64 x.seq, .int .i64 x.kind, .slice A' n' c'] 28)).blk hg
  clear hg
  obtain ⟨s0, s1, s2, s3, z0, z1, z2, z3⟩ := box4 hbox.out (Ext.rfl_ _)
  cases r with
  | true =>
    have j1 : (bytB (x.key.drop 0)).length ≤ 42 := by unfold bytB; have := numB_length (x.key.drop 0).length; have := E1.out; simp at *; omega
    have j0 := numB_length (0 : Int).toNat
    have hsum1 : ([numB (0 : Int).toNat, bytB (x.key.drop 0), numB x.seq.toNat, numB x.kind.toNat].flatten).length ≤ 72 := by simp at *; omega
    go_enter Try.func69, Try.ntmps69
    go_wp2_with fail
    obtain ⟨wA, hwA⟩ : ∃ wA, wA = (w.setCell ⟨g, 0, none⟩ (.slice (some ⟨b, o, none⟩) n c)).alloc (.cells #[.slice (some ⟨b, o, none⟩) n c, .int .i64 x.seq, .int .i64 x.kind, .slice A' n' c'] 28) := ⟨_, rfl⟩
    rw [← hwA]
    rw [← setAlloc hgw] at hwA
    obtain ⟨X0A, CA, HBX, HGA⟩ := wrA (w1 := w.alloc (.cells #[.slice (some ⟨b, o, none⟩) n c, .int .i64 x.seq, .int .i64 x.kind, .slice A' n' c'] 28)) hwA H0.out hg0 HG.out hbox.out (Ext.rfl_ _)
    have BA : w.heap.size ≤ wA.heap.size := CA.out.size
    clear hwA hbox hcg hfg s0 s1 s2 s3 z0 z1 z2 z3 H0 HG
    have KD : Rd w0 (some ⟨b, o, none⟩) n (x.key.drop 0) := by simpa using KX.out
    obtain ⟨g0, g1, g2, g3, f0, f1, f2, f3⟩ := box4 HBX.out (Ext.rfl_ _)

    refine wp_region_held_drew (S := (fun w' => w'.cell? ⟨w.heap.size, 0, none⟩ = some (.slice (some ⟨b, o, none⟩) n c) ∧ w'.cell? ⟨w.heap.size, 1, none⟩ = some (.int .i64 x.seq) ∧ w'.cell? ⟨w.heap.size, 2, none⟩ = some (.int .i64 x.kind) ∧ w'.cell? ⟨w.heap.size, 3, none⟩ = some (.slice A' n' c') ∧ w'.frozen? ⟨w.heap.size, 0, none⟩ = false ∧ w'.frozen? ⟨w.heap.size, 1, none⟩ = false ∧ w'.frozen? ⟨w.heap.size, 2, none⟩ = false ∧ w'.frozen? ⟨w.heap.size, 3, none⟩ = false)) (by kernel_rfl) (by (try dsimp only); exact box4 HBX.out (by with_reducible (repeat (first | exact Ext.rfl_ _ | assumption | refine Ext.drew ?_ | refine Ext.drewN ?_ _ | refine Ext.alloc ?_ _ | refine Ext.trans ?_ (by assumption))))) (fun hHeld => ?_)
    refine wpAnyH_take (i := 0) (oi := ({ dst := some 16, op := Go.Op.move (Go.Operand.tmp 6), type := 3, pos := "block.go:40", after := #[], guard := none } : Go.Oper)) (v := ?v1) rfl (by kernel_rfl) (by kernel_rfl) (by kernel_rfl) (fun _ _ _ h => h) (Or.inl ⟨by rfl, ?hy1⟩) (by assumption) ?rest1
    case hy1 => (intro w hSw; (try dsimp only at hSw); go_simp; (try with_reducible rfl))
    (try simp only [Act.put, List.getElem_toArray, List.getElem_cons_zero, List.getElem_cons_succ, List.setIfInBounds_toArray, List.set_cons_zero, List.set_cons_succ])
    refine wpAnyH_take (i := 1) (oi := ({ dst := some 17, op := Go.Op.convert 3 84 (Go.Operand.tmp 16), type := 84, pos := "block.go:40", after := #[{ on := 0, ground := Go.Ground.data }], guard := none } : Go.Oper)) (v := ?v2) rfl (by kernel_rfl) (by kernel_rfl) (by kernel_rfl) (fun _ _ _ h => h) (Or.inl ⟨by rfl, ?hy2⟩) (by assumption) ?rest2
    case hy2 => (intro w hSw; (try dsimp only at hSw); go_simp; (try with_reducible rfl))
    (try simp only [Act.put, List.getElem_toArray, List.getElem_cons_zero, List.getElem_cons_succ, List.setIfInBounds_toArray, List.set_cons_zero, List.set_cons_succ])
    refine wpAnyH_take (i := 3) (oi := ({ dst := some 19, op := Go.Op.fieldAddr 28 (Go.Operand.tmp 3) 0, type := 0, pos := "block.go:40", after := #[], guard := none } : Go.Oper)) (v := ?v3) rfl (by kernel_rfl) (by kernel_rfl) (by kernel_rfl) (fun _ _ _ h => h) (Or.inl ⟨by rfl, ?hy3⟩) (by assumption) ?rest3
    case hy3 => (intro w hSw; (try dsimp only at hSw); go_simp; (try with_reducible rfl))
    (try simp only [Act.put, List.getElem_toArray, List.getElem_cons_zero, List.getElem_cons_succ, List.setIfInBounds_toArray, List.set_cons_zero, List.set_cons_succ])
    refine wpAnyH_take (i := 4) (oi := ({ dst := some 20, op := Go.Op.load 22 (Go.Operand.tmp 19), type := 22, pos := "block.go:40", after := #[{ on := 3, ground := Go.Ground.data }], guard := none } : Go.Oper)) (v := ?v4) rfl (by kernel_rfl) (by kernel_rfl) (by kernel_rfl) (fun _ _ _ h => h) (Or.inl ⟨by rfl, ?hy4⟩) (by assumption) ?rest4
    case hy4 => (intro w hSw; (try dsimp only at hSw); go_simp; (try with_reducible rfl))
    (try simp only [Act.put, List.getElem_toArray, List.getElem_cons_zero, List.getElem_cons_succ, List.setIfInBounds_toArray, List.set_cons_zero, List.set_cons_succ])
    refine wpAnyH_take (i := 5) (oi := ({ dst := some 21, op := Go.Op.move (Go.Operand.tmp 6), type := 3, pos := "block.go:40", after := #[], guard := none } : Go.Oper)) (v := ?v5) rfl (by kernel_rfl) (by kernel_rfl) (by kernel_rfl) (fun _ _ _ h => h) (Or.inl ⟨by rfl, ?hy5⟩) (by assumption) ?rest5
    case hy5 => (intro w hSw; (try dsimp only at hSw); go_simp; (try with_reducible rfl))
    (try simp only [Act.put, List.getElem_toArray, List.getElem_cons_zero, List.getElem_cons_succ, List.setIfInBounds_toArray, List.set_cons_zero, List.set_cons_succ])
    refine wpAnyH_take (i := 6) (oi := ({ dst := some 22, op := Go.Op.slice 22 (Go.Operand.tmp 20) (some (Go.Operand.tmp 21)) none none, type := 22, pos := "block.go:40", after := #[{ on := 4, ground := Go.Ground.data }, { on := 5, ground := Go.Ground.data }], guard := none } : Go.Oper)) (v := ?v6) rfl (by kernel_rfl) (by kernel_rfl) (by kernel_rfl) (fun _ _ _ h => h) (Or.inl ⟨by rfl, ?hy6⟩) (by assumption) ?rest6
    case hy6 => (intro w hSw; (try dsimp only at hSw); go_simp; (try with_reducible rfl))
    (try simp only [Act.put, List.getElem_toArray, List.getElem_cons_zero, List.getElem_cons_succ, List.setIfInBounds_toArray, List.set_cons_zero, List.set_cons_succ])
    refine wpAnyH_take (i := 8) (oi := ({ dst := some 24, op := Go.Op.fieldAddr 28 (Go.Operand.tmp 3) 1, type := 0, pos := "block.go:40", after := #[], guard := none } : Go.Oper)) (v := ?v7) rfl (by kernel_rfl) (by kernel_rfl) (by kernel_rfl) (fun _ _ _ h => h) (Or.inl ⟨by rfl, ?hy7⟩) (by assumption) ?rest7
    case hy7 => (intro w hSw; (try dsimp only at hSw); go_simp; (try with_reducible rfl))
    (try simp only [Act.put, List.getElem_toArray, List.getElem_cons_zero, List.getElem_cons_succ, List.setIfInBounds_toArray, List.set_cons_zero, List.set_cons_succ])
    refine wpAnyH_take (i := 9) (oi := ({ dst := some 25, op := Go.Op.load 2 (Go.Operand.tmp 24), type := 2, pos := "block.go:40", after := #[{ on := 8, ground := Go.Ground.data }], guard := none } : Go.Oper)) (v := ?v8) rfl (by kernel_rfl) (by kernel_rfl) (by kernel_rfl) (fun _ _ _ h => h) (Or.inl ⟨by rfl, ?hy8⟩) (by assumption) ?rest8
    case hy8 => (intro w hSw; (try dsimp only at hSw); go_simp; (try with_reducible rfl))
    (try simp only [Act.put, List.getElem_toArray, List.getElem_cons_zero, List.getElem_cons_succ, List.setIfInBounds_toArray, List.set_cons_zero, List.set_cons_succ])
    refine wpAnyH_take (i := 10) (oi := ({ dst := some 26, op := Go.Op.convert 2 84 (Go.Operand.tmp 25), type := 84, pos := "block.go:40", after := #[{ on := 9, ground := Go.Ground.data }], guard := none } : Go.Oper)) (v := ?v9) rfl (by kernel_rfl) (by kernel_rfl) (by kernel_rfl) (fun _ _ _ h => h) (Or.inl ⟨by rfl, ?hy9⟩) (by assumption) ?rest9
    case hy9 => (intro w hSw; (try dsimp only at hSw); go_simp; (try with_reducible rfl))
    (try simp only [Act.put, List.getElem_toArray, List.getElem_cons_zero, List.getElem_cons_succ, List.setIfInBounds_toArray, List.set_cons_zero, List.set_cons_succ])
    refine wpAnyH_take (i := 12) (oi := ({ dst := some 28, op := Go.Op.fieldAddr 28 (Go.Operand.tmp 3) 2, type := 0, pos := "block.go:40", after := #[], guard := none } : Go.Oper)) (v := ?v10) rfl (by kernel_rfl) (by kernel_rfl) (by kernel_rfl) (fun _ _ _ h => h) (Or.inl ⟨by rfl, ?hy10⟩) (by assumption) ?rest10
    case hy10 => (intro w hSw; (try dsimp only at hSw); go_simp; (try with_reducible rfl))
    (try simp only [Act.put, List.getElem_toArray, List.getElem_cons_zero, List.getElem_cons_succ, List.setIfInBounds_toArray, List.set_cons_zero, List.set_cons_succ])
    refine wpAnyH_take (i := 13) (oi := ({ dst := some 29, op := Go.Op.load 26 (Go.Operand.tmp 28), type := 26, pos := "block.go:40", after := #[{ on := 12, ground := Go.Ground.data }], guard := none } : Go.Oper)) (v := ?v11) rfl (by kernel_rfl) (by kernel_rfl) (by kernel_rfl) (fun _ _ _ h => h) (Or.inl ⟨by rfl, ?hy11⟩) (by assumption) ?rest11
    case hy11 => (intro w hSw; (try dsimp only at hSw); go_simp; (try with_reducible rfl))
    (try simp only [Act.put, List.getElem_toArray, List.getElem_cons_zero, List.getElem_cons_succ, List.setIfInBounds_toArray, List.set_cons_zero, List.set_cons_succ])
    refine wpAnyH_take (i := 14) (oi := ({ dst := some 30, op := Go.Op.convert 26 84 (Go.Operand.tmp 29), type := 84, pos := "block.go:40", after := #[{ on := 13, ground := Go.Ground.data }], guard := none } : Go.Oper)) (v := ?v12) rfl (by kernel_rfl) (by kernel_rfl) (by kernel_rfl) (fun _ _ _ h => h) (Or.inl ⟨by rfl, ?hy12⟩) (by assumption) ?rest12
    case hy12 => (intro w hSw; (try dsimp only at hSw); go_simp; (try with_reducible rfl))
    (try simp only [Act.put, List.getElem_toArray, List.getElem_cons_zero, List.getElem_cons_succ, List.setIfInBounds_toArray, List.set_cons_zero, List.set_cons_succ])
    refine wpAnyH_ready (rs := [2]) (by kernel_rfl) (by simp) ?_
    refine AllReadyH.cons (o := ({ dst := some 18, op := Go.Op.call { callee := Go.Callee.value (Go.Operand.func 71), args := #[Go.Operand.tmp 17], argTypes := #[84] }, type := 22, pos := "block.go:40", after := #[{ on := 1, ground := Go.Ground.data }], guard := none } : Go.Oper)) rfl (fun K hK => ?_) AllReadyH.nil
    go_simp
    (first | (go_at_call 72; refine (wbytes_any _ _ _ (x.key.drop 0) _ (KD.ext (X0A.trans (by with_reducible (repeat (first | exact Ext.rfl_ _ | assumption | refine Ext.drew ?_ | refine Ext.drewN ?_ _ | refine Ext.alloc ?_ _ | refine Ext.trans ?_ (by assumption)))))) (by unfold B40; omega)).mono ?_; rintro e w2 ⟨v2, rfl, o2, hw2⟩; obtain ⟨A2, n2, c2, rfl, l2, r2, i2⟩ := o2.formN) | (go_at_call_of 71 (Value.int .u64 x.seq); refine (number_z x.seq _ (by omega) (by omega)).mono ?_; rintro e w3 ⟨v3, rfl, o3, hw3⟩; obtain ⟨A3, n3, c3, rfl, l3, r3, i3⟩ := o3.formN) | (go_at_call_of 71 (Value.int .u64 x.kind); refine (number_z x.kind _ (by omega) (by omega)).mono ?_; rintro e w4 ⟨v4, rfl, o4, hw4⟩; obtain ⟨A4, n4, c4, rfl, l4, r4, i4⟩ := o4.formN) | (go_at_call 70; refine (join_any _ 4 4 [numB (0 : Int).toNat, bytB (x.key.drop 0), numB x.seq.toNat, numB x.kind.toNat] _ (RdBB.new4 (r1.ext (by with_reducible (repeat (first | exact Ext.rfl_ _ | assumption | refine Ext.drew ?_ | refine Ext.drewN ?_ _ | refine Ext.alloc ?_ _ | refine Ext.trans ?_ (by assumption))))) (r2.ext (by with_reducible (repeat (first | exact Ext.rfl_ _ | assumption | refine Ext.drew ?_ | refine Ext.drewN ?_ _ | refine Ext.alloc ?_ _ | refine Ext.trans ?_ (by assumption))))) (r3.ext (by with_reducible (repeat (first | exact Ext.rfl_ _ | assumption | refine Ext.drew ?_ | refine Ext.drewN ?_ _ | refine Ext.alloc ?_ _ | refine Ext.trans ?_ (by assumption))))) (r4.ext (by with_reducible (repeat (first | exact Ext.rfl_ _ | assumption | refine Ext.drew ?_ | refine Ext.drewN ?_ _ | refine Ext.alloc ?_ _ | refine Ext.trans ?_ (by assumption)))))) (by decide) (by unfold B47; omega)).mono ?_; rintro e w5 ⟨v5, rfl, o5, hw5⟩; obtain ⟨A5, n5, c5, rfl, l5, r5, i5⟩ := o5.formN) | (go_at_call 71; refine (number_z 0 _ (by omega) (by omega)).mono ?_; rintro e w1 ⟨v1, rfl, o1, hw1⟩; obtain ⟨A1, n1, c1, rfl, l1, r1, i1⟩ := o1.formN))
    (try (go_wp2_with fail))
    refine hK.out _ _ (by (try dsimp only); exact box4 HBX.out (by with_reducible (repeat (first | exact Ext.rfl_ _ | assumption | refine Ext.drew ?_ | refine Ext.drewN ?_ _ | refine Ext.alloc ?_ _ | refine Ext.trans ?_ (by assumption))))) (fun hHeld => ?_)
    clear hK K
    (try simp only [Act.put, List.getElem_toArray, List.getElem_cons_zero, List.getElem_cons_succ, List.setIfInBounds_toArray, List.set_cons_zero, List.set_cons_succ])
    refine wpAnyH_ready (rs := [7]) (by kernel_rfl) (by simp) ?_
    refine AllReadyH.cons (o := ({ dst := some 23, op := Go.Op.call { callee := Go.Callee.value (Go.Operand.func 72), args := #[Go.Operand.tmp 22], argTypes := #[22] }, type := 22, pos := "block.go:40", after := #[{ on := 6, ground := Go.Ground.data }, { on := 2, ground := Go.Ground.chain }], guard := none } : Go.Oper)) rfl (fun K hK => ?_) AllReadyH.nil
    go_simp
    (first | (go_at_call 72; refine (wbytes_any _ _ _ (x.key.drop 0) _ (KD.ext (X0A.trans (by with_reducible (repeat (first | exact Ext.rfl_ _ | assumption | refine Ext.drew ?_ | refine Ext.drewN ?_ _ | refine Ext.alloc ?_ _ | refine Ext.trans ?_ (by assumption)))))) (by unfold B40; omega)).mono ?_; rintro e w2 ⟨v2, rfl, o2, hw2⟩; obtain ⟨A2, n2, c2, rfl, l2, r2, i2⟩ := o2.formN) | (go_at_call_of 71 (Value.int .u64 x.seq); refine (number_z x.seq _ (by omega) (by omega)).mono ?_; rintro e w3 ⟨v3, rfl, o3, hw3⟩; obtain ⟨A3, n3, c3, rfl, l3, r3, i3⟩ := o3.formN) | (go_at_call_of 71 (Value.int .u64 x.kind); refine (number_z x.kind _ (by omega) (by omega)).mono ?_; rintro e w4 ⟨v4, rfl, o4, hw4⟩; obtain ⟨A4, n4, c4, rfl, l4, r4, i4⟩ := o4.formN) | (go_at_call 70; refine (join_any _ 4 4 [numB (0 : Int).toNat, bytB (x.key.drop 0), numB x.seq.toNat, numB x.kind.toNat] _ (RdBB.new4 (r1.ext (by with_reducible (repeat (first | exact Ext.rfl_ _ | assumption | refine Ext.drew ?_ | refine Ext.drewN ?_ _ | refine Ext.alloc ?_ _ | refine Ext.trans ?_ (by assumption))))) (r2.ext (by with_reducible (repeat (first | exact Ext.rfl_ _ | assumption | refine Ext.drew ?_ | refine Ext.drewN ?_ _ | refine Ext.alloc ?_ _ | refine Ext.trans ?_ (by assumption))))) (r3.ext (by with_reducible (repeat (first | exact Ext.rfl_ _ | assumption | refine Ext.drew ?_ | refine Ext.drewN ?_ _ | refine Ext.alloc ?_ _ | refine Ext.trans ?_ (by assumption))))) (r4.ext (by with_reducible (repeat (first | exact Ext.rfl_ _ | assumption | refine Ext.drew ?_ | refine Ext.drewN ?_ _ | refine Ext.alloc ?_ _ | refine Ext.trans ?_ (by assumption)))))) (by decide) (by unfold B47; omega)).mono ?_; rintro e w5 ⟨v5, rfl, o5, hw5⟩; obtain ⟨A5, n5, c5, rfl, l5, r5, i5⟩ := o5.formN) | (go_at_call 71; refine (number_z 0 _ (by omega) (by omega)).mono ?_; rintro e w1 ⟨v1, rfl, o1, hw1⟩; obtain ⟨A1, n1, c1, rfl, l1, r1, i1⟩ := o1.formN))
    (try (go_wp2_with fail))
    refine hK.out _ _ (by (try dsimp only); exact box4 HBX.out (by with_reducible (repeat (first | exact Ext.rfl_ _ | assumption | refine Ext.drew ?_ | refine Ext.drewN ?_ _ | refine Ext.alloc ?_ _ | refine Ext.trans ?_ (by assumption))))) (fun hHeld => ?_)
    clear hK K
    (try simp only [Act.put, List.getElem_toArray, List.getElem_cons_zero, List.getElem_cons_succ, List.setIfInBounds_toArray, List.set_cons_zero, List.set_cons_succ])
    refine wpAnyH_ready (rs := [11]) (by kernel_rfl) (by simp) ?_
    refine AllReadyH.cons (o := ({ dst := some 27, op := Go.Op.call { callee := Go.Callee.value (Go.Operand.func 71), args := #[Go.Operand.tmp 26], argTypes := #[84] }, type := 22, pos := "block.go:40", after := #[{ on := 10, ground := Go.Ground.data }, { on := 7, ground := Go.Ground.chain }], guard := none } : Go.Oper)) rfl (fun K hK => ?_) AllReadyH.nil
    go_simp
    (first | (go_at_call 72; refine (wbytes_any _ _ _ (x.key.drop 0) _ (KD.ext (X0A.trans (by with_reducible (repeat (first | exact Ext.rfl_ _ | assumption | refine Ext.drew ?_ | refine Ext.drewN ?_ _ | refine Ext.alloc ?_ _ | refine Ext.trans ?_ (by assumption)))))) (by unfold B40; omega)).mono ?_; rintro e w2 ⟨v2, rfl, o2, hw2⟩; obtain ⟨A2, n2, c2, rfl, l2, r2, i2⟩ := o2.formN) | (go_at_call_of 71 (Value.int .u64 x.seq); refine (number_z x.seq _ (by omega) (by omega)).mono ?_; rintro e w3 ⟨v3, rfl, o3, hw3⟩; obtain ⟨A3, n3, c3, rfl, l3, r3, i3⟩ := o3.formN) | (go_at_call_of 71 (Value.int .u64 x.kind); refine (number_z x.kind _ (by omega) (by omega)).mono ?_; rintro e w4 ⟨v4, rfl, o4, hw4⟩; obtain ⟨A4, n4, c4, rfl, l4, r4, i4⟩ := o4.formN) | (go_at_call 70; refine (join_any _ 4 4 [numB (0 : Int).toNat, bytB (x.key.drop 0), numB x.seq.toNat, numB x.kind.toNat] _ (RdBB.new4 (r1.ext (by with_reducible (repeat (first | exact Ext.rfl_ _ | assumption | refine Ext.drew ?_ | refine Ext.drewN ?_ _ | refine Ext.alloc ?_ _ | refine Ext.trans ?_ (by assumption))))) (r2.ext (by with_reducible (repeat (first | exact Ext.rfl_ _ | assumption | refine Ext.drew ?_ | refine Ext.drewN ?_ _ | refine Ext.alloc ?_ _ | refine Ext.trans ?_ (by assumption))))) (r3.ext (by with_reducible (repeat (first | exact Ext.rfl_ _ | assumption | refine Ext.drew ?_ | refine Ext.drewN ?_ _ | refine Ext.alloc ?_ _ | refine Ext.trans ?_ (by assumption))))) (r4.ext (by with_reducible (repeat (first | exact Ext.rfl_ _ | assumption | refine Ext.drew ?_ | refine Ext.drewN ?_ _ | refine Ext.alloc ?_ _ | refine Ext.trans ?_ (by assumption)))))) (by decide) (by unfold B47; omega)).mono ?_; rintro e w5 ⟨v5, rfl, o5, hw5⟩; obtain ⟨A5, n5, c5, rfl, l5, r5, i5⟩ := o5.formN) | (go_at_call 71; refine (number_z 0 _ (by omega) (by omega)).mono ?_; rintro e w1 ⟨v1, rfl, o1, hw1⟩; obtain ⟨A1, n1, c1, rfl, l1, r1, i1⟩ := o1.formN))
    (try (go_wp2_with fail))
    refine hK.out _ _ (by (try dsimp only); exact box4 HBX.out (by with_reducible (repeat (first | exact Ext.rfl_ _ | assumption | refine Ext.drew ?_ | refine Ext.drewN ?_ _ | refine Ext.alloc ?_ _ | refine Ext.trans ?_ (by assumption))))) (fun hHeld => ?_)
    clear hK K
    (try simp only [Act.put, List.getElem_toArray, List.getElem_cons_zero, List.getElem_cons_succ, List.setIfInBounds_toArray, List.set_cons_zero, List.set_cons_succ])
    refine wpAnyH_ready (rs := [15]) (by kernel_rfl) (by simp) ?_
    refine AllReadyH.cons (o := ({ dst := some 31, op := Go.Op.call { callee := Go.Callee.value (Go.Operand.func 71), args := #[Go.Operand.tmp 30], argTypes := #[84] }, type := 22, pos := "block.go:40", after := #[{ on := 14, ground := Go.Ground.data }, { on := 11, ground := Go.Ground.chain }], guard := none } : Go.Oper)) rfl (fun K hK => ?_) AllReadyH.nil
    go_simp
    (first | (go_at_call 72; refine (wbytes_any _ _ _ (x.key.drop 0) _ (KD.ext (X0A.trans (by with_reducible (repeat (first | exact Ext.rfl_ _ | assumption | refine Ext.drew ?_ | refine Ext.drewN ?_ _ | refine Ext.alloc ?_ _ | refine Ext.trans ?_ (by assumption)))))) (by unfold B40; omega)).mono ?_; rintro e w2 ⟨v2, rfl, o2, hw2⟩; obtain ⟨A2, n2, c2, rfl, l2, r2, i2⟩ := o2.formN) | (go_at_call_of 71 (Value.int .u64 x.seq); refine (number_z x.seq _ (by omega) (by omega)).mono ?_; rintro e w3 ⟨v3, rfl, o3, hw3⟩; obtain ⟨A3, n3, c3, rfl, l3, r3, i3⟩ := o3.formN) | (go_at_call_of 71 (Value.int .u64 x.kind); refine (number_z x.kind _ (by omega) (by omega)).mono ?_; rintro e w4 ⟨v4, rfl, o4, hw4⟩; obtain ⟨A4, n4, c4, rfl, l4, r4, i4⟩ := o4.formN) | (go_at_call 70; refine (join_any _ 4 4 [numB (0 : Int).toNat, bytB (x.key.drop 0), numB x.seq.toNat, numB x.kind.toNat] _ (RdBB.new4 (r1.ext (by with_reducible (repeat (first | exact Ext.rfl_ _ | assumption | refine Ext.drew ?_ | refine Ext.drewN ?_ _ | refine Ext.alloc ?_ _ | refine Ext.trans ?_ (by assumption))))) (r2.ext (by with_reducible (repeat (first | exact Ext.rfl_ _ | assumption | refine Ext.drew ?_ | refine Ext.drewN ?_ _ | refine Ext.alloc ?_ _ | refine Ext.trans ?_ (by assumption))))) (r3.ext (by with_reducible (repeat (first | exact Ext.rfl_ _ | assumption | refine Ext.drew ?_ | refine Ext.drewN ?_ _ | refine Ext.alloc ?_ _ | refine Ext.trans ?_ (by assumption))))) (r4.ext (by with_reducible (repeat (first | exact Ext.rfl_ _ | assumption | refine Ext.drew ?_ | refine Ext.drewN ?_ _ | refine Ext.alloc ?_ _ | refine Ext.trans ?_ (by assumption)))))) (by decide) (by unfold B47; omega)).mono ?_; rintro e w5 ⟨v5, rfl, o5, hw5⟩; obtain ⟨A5, n5, c5, rfl, l5, r5, i5⟩ := o5.formN) | (go_at_call 71; refine (number_z 0 _ (by omega) (by omega)).mono ?_; rintro e w1 ⟨v1, rfl, o1, hw1⟩; obtain ⟨A1, n1, c1, rfl, l1, r1, i1⟩ := o1.formN))
    (try (go_wp2_with fail))
    refine hK.out _ _ (by (try dsimp only); exact box4 HBX.out (by with_reducible (repeat (first | exact Ext.rfl_ _ | assumption | refine Ext.drew ?_ | refine Ext.drewN ?_ _ | refine Ext.alloc ?_ _ | refine Ext.trans ?_ (by assumption))))) (fun hHeld => ?_)
    clear hK K
    (try simp only [Act.put, List.getElem_toArray, List.getElem_cons_zero, List.getElem_cons_succ, List.setIfInBounds_toArray, List.set_cons_zero, List.set_cons_succ])
    refine wpAnyH_ready (rs := [16]) (by kernel_rfl) (by simp) ?_
    refine AllReadyH.cons (o := ({ dst := some 32, op := Go.Op.buildSlice 100 4 #[(0, Go.Operand.tmp 18), (1, Go.Operand.tmp 23), (2, Go.Operand.tmp 27), (3, Go.Operand.tmp 31)], type := 100, pos := "block.go:40", after := #[{ on := 2, ground := Go.Ground.data }, { on := 7, ground := Go.Ground.data }, { on := 11, ground := Go.Ground.data }, { on := 15, ground := Go.Ground.data }], guard := none } : Go.Oper)) rfl (fun K hK => ?_) AllReadyH.nil
    go_simp
    refine hK.out _ _ (by (try dsimp only); exact box4 HBX.out (by with_reducible (repeat (first | exact Ext.rfl_ _ | assumption | refine Ext.drew ?_ | refine Ext.drewN ?_ _ | refine Ext.alloc ?_ _ | refine Ext.trans ?_ (by assumption))))) (fun hHeld => ?_)
    clear hK K
    (try simp only [Act.put, List.getElem_toArray, List.getElem_cons_zero, List.getElem_cons_succ, List.setIfInBounds_toArray, List.set_cons_zero, List.set_cons_succ])
    refine wpAnyH_ready (rs := [17]) (by kernel_rfl) (by simp) ?_
    refine AllReadyH.cons (o := ({ dst := some 33, op := Go.Op.call { callee := Go.Callee.value (Go.Operand.func 70), args := #[Go.Operand.tmp 32], argTypes := #[100] }, type := 22, pos := "block.go:40", after := #[{ on := 16, ground := Go.Ground.data }, { on := 15, ground := Go.Ground.chain }], guard := none } : Go.Oper)) rfl (fun K hK => ?_) AllReadyH.nil
    go_simp
    (first | (go_at_call 72; refine (wbytes_any _ _ _ (x.key.drop 0) _ (KD.ext (X0A.trans (by with_reducible (repeat (first | exact Ext.rfl_ _ | assumption | refine Ext.drew ?_ | refine Ext.drewN ?_ _ | refine Ext.alloc ?_ _ | refine Ext.trans ?_ (by assumption)))))) (by unfold B40; omega)).mono ?_; rintro e w2 ⟨v2, rfl, o2, hw2⟩; obtain ⟨A2, n2, c2, rfl, l2, r2, i2⟩ := o2.formN) | (go_at_call_of 71 (Value.int .u64 x.seq); refine (number_z x.seq _ (by omega) (by omega)).mono ?_; rintro e w3 ⟨v3, rfl, o3, hw3⟩; obtain ⟨A3, n3, c3, rfl, l3, r3, i3⟩ := o3.formN) | (go_at_call_of 71 (Value.int .u64 x.kind); refine (number_z x.kind _ (by omega) (by omega)).mono ?_; rintro e w4 ⟨v4, rfl, o4, hw4⟩; obtain ⟨A4, n4, c4, rfl, l4, r4, i4⟩ := o4.formN) | (go_at_call 70; refine (join_any _ 4 4 [numB (0 : Int).toNat, bytB (x.key.drop 0), numB x.seq.toNat, numB x.kind.toNat] _ (RdBB.new4 (r1.ext (by with_reducible (repeat (first | exact Ext.rfl_ _ | assumption | refine Ext.drew ?_ | refine Ext.drewN ?_ _ | refine Ext.alloc ?_ _ | refine Ext.trans ?_ (by assumption))))) (r2.ext (by with_reducible (repeat (first | exact Ext.rfl_ _ | assumption | refine Ext.drew ?_ | refine Ext.drewN ?_ _ | refine Ext.alloc ?_ _ | refine Ext.trans ?_ (by assumption))))) (r3.ext (by with_reducible (repeat (first | exact Ext.rfl_ _ | assumption | refine Ext.drew ?_ | refine Ext.drewN ?_ _ | refine Ext.alloc ?_ _ | refine Ext.trans ?_ (by assumption))))) (r4.ext (by with_reducible (repeat (first | exact Ext.rfl_ _ | assumption | refine Ext.drew ?_ | refine Ext.drewN ?_ _ | refine Ext.alloc ?_ _ | refine Ext.trans ?_ (by assumption)))))) (by decide) (by unfold B47; omega)).mono ?_; rintro e w5 ⟨v5, rfl, o5, hw5⟩; obtain ⟨A5, n5, c5, rfl, l5, r5, i5⟩ := o5.formN) | (go_at_call 71; refine (number_z 0 _ (by omega) (by omega)).mono ?_; rintro e w1 ⟨v1, rfl, o1, hw1⟩; obtain ⟨A1, n1, c1, rfl, l1, r1, i1⟩ := o1.formN))
    (try (go_wp2_with fail))
    refine hK.out _ _ (by (try dsimp only); exact box4 HBX.out (by with_reducible (repeat (first | exact Ext.rfl_ _ | assumption | refine Ext.drew ?_ | refine Ext.drewN ?_ _ | refine Ext.alloc ?_ _ | refine Ext.trans ?_ (by assumption))))) (fun hHeld => ?_)
    clear hK K
    (try simp only [Act.put, List.getElem_toArray, List.getElem_cons_zero, List.getElem_cons_succ, List.setIfInBounds_toArray, List.set_cons_zero, List.set_cons_succ])
    refine wpAnyH_take (i := 18) (oi := ({ dst := some 7, op := Go.Op.assign (Go.Operand.tmp 33), type := 22, pos := "block.go:40", after := #[{ on := 17, ground := Go.Ground.data }, { on := 17, ground := Go.Ground.chain }, { on := 0, ground := Go.Ground.phase }, { on := 1, ground := Go.Ground.phase }, { on := 2, ground := Go.Ground.phase }, { on := 3, ground := Go.Ground.phase }, { on := 4, ground := Go.Ground.phase }, { on := 5, ground := Go.Ground.phase }, { on := 6, ground := Go.Ground.phase }, { on := 7, ground := Go.Ground.phase }, { on := 8, ground := Go.Ground.phase }, { on := 9, ground := Go.Ground.phase }, { on := 10, ground := Go.Ground.phase }, { on := 11, ground := Go.Ground.phase }, { on := 12, ground := Go.Ground.phase }, { on := 13, ground := Go.Ground.phase }, { on := 14, ground := Go.Ground.phase }, { on := 15, ground := Go.Ground.phase }, { on := 16, ground := Go.Ground.phase }, { on := 17, ground := Go.Ground.phase }], guard := none } : Go.Oper)) (v := ?v13) rfl (by kernel_rfl) (by kernel_rfl) (by kernel_rfl) (fun _ _ _ h => h) (Or.inl ⟨by rfl, ?hy13⟩) (by assumption) ?rest13
    case hy13 => (intro w hSw; (try dsimp only at hSw); go_simp; (try with_reducible rfl))
    (try simp only [Act.put, List.getElem_toArray, List.getElem_cons_zero, List.getElem_cons_succ, List.setIfInBounds_toArray, List.set_cons_zero, List.set_cons_succ])
    refine wpAnyH_done (by kernel_rfl) ?_ _
    all_goals
      have X5 := Lib.hid (show Ext wA w5 from (by with_reducible (repeat (first | exact Ext.rfl_ _ | assumption | refine Ext.drew ?_ | refine Ext.drewN ?_ _ | refine Ext.alloc ?_ _ | refine Ext.trans ?_ (by assumption)))))
      obtain ⟨g0, g1, g2, g3, f0, f1, f2, f3⟩ := box4 HBX.out X5.out
      have base5 : wA.heap.size ≤ (w4.alloc (.cells #[.slice A1 n1 c1, .slice A2 n2 c2, .slice A3 n3 c3, .slice A4 n4 c4] 22)).heap.size := Ext.size (w := wA) (w' := w4.alloc _) (by with_reducible (repeat (first | exact Ext.rfl_ _ | assumption | refine Ext.drew ?_ | refine Ext.drewN ?_ _ | refine Ext.alloc ?_ _ | refine Ext.trans ?_ (by assumption))))
      have R5 := Lib.hid r5
      have O5 := Lib.hid o5
      clear hw1 hw2 hw3 hw4 hw5 o1 o2 o3 o4 o5 r1 r2 r3 r4 r5
      rcases HK.out with hk | hk
      · have hkb : (x.kind == 1) = true := by simpa using hk
        have HK1 := Lib.hid hk
        clear hk
        go_wp2_with fail
        refine (wbytes_any A' n' c' x.val _ (KY.out.ext (X0A.trans (X5.out.trans (by with_reducible (repeat (first | exact Ext.rfl_ _ | assumption | refine Ext.drew ?_ | refine Ext.drewN ?_ _ | refine Ext.alloc ?_ _ | refine Ext.trans ?_ (by assumption))))))) (by unfold B40; omega)).mono ?_
        rintro e w6 ⟨v6, rfl, o6, hw6⟩
        obtain ⟨A6, n6, c6, rfl, l6, r6, i6⟩ := o6.formN
        go_wp2_with fail
        refine (join_any _ 2 2 [[numB (0 : Int).toNat, bytB (x.key.drop 0), numB x.seq.toNat, numB x.kind.toNat].flatten, bytB x.val] _ (RdBB.new2 (R5.out.ext (by with_reducible (repeat (first | exact Ext.rfl_ _ | assumption | refine Ext.drew ?_ | refine Ext.drewN ?_ _ | refine Ext.alloc ?_ _ | refine Ext.trans ?_ (by assumption))))) (r6.ext (by with_reducible (repeat (first | exact Ext.rfl_ _ | assumption | refine Ext.drew ?_ | refine Ext.drewN ?_ _ | refine Ext.alloc ?_ _ | refine Ext.trans ?_ (by assumption)))))) (by decide) (by rw [List.flatten_cons, List.length_append]; unfold B47; simp at hsum1 ⊢; omega)).mono ?_
        rintro e w7 ⟨v7, rfl, o7, hw7⟩
        have X7 : Ext wA w7 := X5.out.trans (by with_reducible (repeat (first | exact Ext.rfl_ _ | assumption | refine Ext.drew ?_ | refine Ext.drewN ?_ _ | refine Ext.alloc ?_ _ | refine Ext.trans ?_ (by assumption))))
        have base7 : w5.heap.size ≤ w6.heap.size := Ext.size (w := w5) (w' := w6) (by with_reducible (repeat (first | exact Ext.rfl_ _ | assumption | refine Ext.drew ?_ | refine Ext.drewN ?_ _ | refine Ext.alloc ?_ _ | refine Ext.trans ?_ (by assumption))))
        have base8 : wA.heap.size ≤ w5.heap.size := Ext.size X5.out
        go_wp2
        go_ret
        refine ⟨v7, rfl, ?_, ⟨_, _, c, X7.blk HGA.out, KX.out, hnc, by omega⟩, CA.out.ext X7⟩
        have e7 : OwnB w7 w.heap.size v7 [[numB (0 : Int).toNat, bytB (x.key.drop 0), numB x.seq.toNat, numB x.kind.toNat].flatten, bytB x.val].flatten := o7.mono (by rw [World.size_alloc]; omega)
        rw [blkE_put (k := 0) (by first | rfl | (rw [KS.out]; rfl)) HK1.out]
        exact e7
      · have hkb : (x.kind == 1) = false := by simp; omega
        have HK1 := Lib.hid hk
        clear hk
        go_wp2
        go_ret
        refine ⟨_, rfl, ?_, ⟨_, _, c, X5.out.blk HGA.out, KX.out, hnc, by omega⟩, CA.out.ext X5.out⟩
        have e7 : OwnB w5 w.heap.size _ [numB (0 : Int).toNat, bytB (x.key.drop 0), numB x.seq.toNat, numB x.kind.toNat].flatten := O5.out.mono (by omega)
        rw [blkE_del (k := 0) (by first | rfl | (rw [KS.out]; rfl)) (by rw [HK1.out]; decide)]
        exact e7
  | false =>
    obtain ⟨k, hk⟩ : ∃ k, k = shr p x.key := ⟨_, rfl⟩
    have KS := Lib.hid hk
    rw [← hk] at hsl
    have hkn : k ≤ n := by have := E1.out; omega
    have hkc : k ≤ c := by omega
    have hkni : (k : Int) ≤ (n : Int) := by omega
    have hkci : (k : Int) ≤ (c : Int) := by omega
    have hqk : IntKind.u64.wrap (k : Int) = k := by rw [IntKind.wrap_u64]; omega
    clear hk
    have j1 : (bytB (x.key.drop k)).length ≤ 42 := by unfold bytB; have := numB_length (x.key.drop k).length; have := E1.out; simp at *; omega
    have j0 := numB_length k
    have hsum1 : ([numB ((k : Nat) : Int).toNat, bytB (x.key.drop k), numB x.seq.toNat, numB x.kind.toNat].flatten).length ≤ 72 := by simp at *; omega
    go_enter Try.func69, Try.ntmps69
    go_wp2_with fail
    refine (shared_any _ _ _ _ _ _ p x.key _ (KP.out.ext (H0.out.trans (by with_reducible (repeat (first | exact Ext.rfl_ _ | assumption | refine Ext.drew ?_ | refine Ext.drewN ?_ _ | refine Ext.alloc ?_ _ | refine Ext.trans ?_ (by assumption)))))) (KX.out.ext (H0.out.trans (by with_reducible (repeat (first | exact Ext.rfl_ _ | assumption | refine Ext.drew ?_ | refine Ext.drewN ?_ _ | refine Ext.alloc ?_ _ | refine Ext.trans ?_ (by assumption)))))) (by unfold B47; omega) (by unfold B47; omega)).mono ?_
    rintro e w1 ⟨rfl, hw1⟩
    rw [← KS.out]
    have hcg := hw1.keeps _ _ _ hcg
    have hfg := frozen_at (o := 0) (hw1.blk hG1)
    obtain ⟨s0, s1, s2, s3, z0, z1, z2, z3⟩ := box4 hbox.out hw1
    go_wp2_with fail
    obtain ⟨wA, hwA⟩ : ∃ wA, wA = w1.setCell ⟨g, 0, none⟩ (.slice (some ⟨b, o, none⟩) n c) := ⟨_, rfl⟩
    rw [← hwA]
    obtain ⟨X0A, CA, HBX, HGA⟩ := wrA (w1 := w1) hwA H0.out hg0 HG.out hbox.out hw1
    have BA : w.heap.size ≤ wA.heap.size := CA.out.size
    clear hwA hbox hcg hfg s0 s1 s2 s3 z0 z1 z2 z3 H0 HG hw1
    obtain ⟨g0, g1, g2, g3, f0, f1, f2, f3⟩ := box4 HBX.out (Ext.rfl_ _)
    by_cases hck : k = c
    · subst hck
      have hckn : k = n := by omega
      have KD : Rd w0 (some ⟨b, o, none⟩) 0 (x.key.drop k) := by
        rw [List.drop_eq_nil_of_le (by rw [E1.out]; omega)]
        exact Rd.nil _ _
      have hnk : n ≤ k := by omega
      have hnki : (n : Int) ≤ (k : Int) := by omega
      clear hckn

      refine wp_region_held_drew (S := (fun w' => w'.cell? ⟨w.heap.size, 0, none⟩ = some (.slice (some ⟨b, o, none⟩) n k) ∧ w'.cell? ⟨w.heap.size, 1, none⟩ = some (.int .i64 x.seq) ∧ w'.cell? ⟨w.heap.size, 2, none⟩ = some (.int .i64 x.kind) ∧ w'.cell? ⟨w.heap.size, 3, none⟩ = some (.slice A' n' c') ∧ w'.frozen? ⟨w.heap.size, 0, none⟩ = false ∧ w'.frozen? ⟨w.heap.size, 1, none⟩ = false ∧ w'.frozen? ⟨w.heap.size, 2, none⟩ = false ∧ w'.frozen? ⟨w.heap.size, 3, none⟩ = false)) (by kernel_rfl) (by (try dsimp only); exact box4 HBX.out (by with_reducible (repeat (first | exact Ext.rfl_ _ | assumption | refine Ext.drew ?_ | refine Ext.drewN ?_ _ | refine Ext.alloc ?_ _ | refine Ext.trans ?_ (by assumption))))) (fun hHeld => ?_)
      refine wpAnyH_take (i := 0) (oi := ({ dst := some 16, op := Go.Op.move (Go.Operand.tmp 6), type := 3, pos := "block.go:40", after := #[], guard := none } : Go.Oper)) (v := ?v14) rfl (by kernel_rfl) (by kernel_rfl) (by kernel_rfl) (fun _ _ _ h => h) (Or.inl ⟨by rfl, ?hy14⟩) (by assumption) ?rest14
      case hy14 => (intro w hSw; (try dsimp only at hSw); go_simp; (try with_reducible rfl))
      (try simp only [Act.put, List.getElem_toArray, List.getElem_cons_zero, List.getElem_cons_succ, List.setIfInBounds_toArray, List.set_cons_zero, List.set_cons_succ])
      refine wpAnyH_take (i := 1) (oi := ({ dst := some 17, op := Go.Op.convert 3 84 (Go.Operand.tmp 16), type := 84, pos := "block.go:40", after := #[{ on := 0, ground := Go.Ground.data }], guard := none } : Go.Oper)) (v := ?v15) rfl (by kernel_rfl) (by kernel_rfl) (by kernel_rfl) (fun _ _ _ h => h) (Or.inl ⟨by rfl, ?hy15⟩) (by assumption) ?rest15
      case hy15 => (intro w hSw; (try dsimp only at hSw); go_simp; (try with_reducible rfl))
      (try simp only [Act.put, List.getElem_toArray, List.getElem_cons_zero, List.getElem_cons_succ, List.setIfInBounds_toArray, List.set_cons_zero, List.set_cons_succ])
      refine wpAnyH_take (i := 3) (oi := ({ dst := some 19, op := Go.Op.fieldAddr 28 (Go.Operand.tmp 3) 0, type := 0, pos := "block.go:40", after := #[], guard := none } : Go.Oper)) (v := ?v16) rfl (by kernel_rfl) (by kernel_rfl) (by kernel_rfl) (fun _ _ _ h => h) (Or.inl ⟨by rfl, ?hy16⟩) (by assumption) ?rest16
      case hy16 => (intro w hSw; (try dsimp only at hSw); go_simp; (try with_reducible rfl))
      (try simp only [Act.put, List.getElem_toArray, List.getElem_cons_zero, List.getElem_cons_succ, List.setIfInBounds_toArray, List.set_cons_zero, List.set_cons_succ])
      refine wpAnyH_take (i := 4) (oi := ({ dst := some 20, op := Go.Op.load 22 (Go.Operand.tmp 19), type := 22, pos := "block.go:40", after := #[{ on := 3, ground := Go.Ground.data }], guard := none } : Go.Oper)) (v := ?v17) rfl (by kernel_rfl) (by kernel_rfl) (by kernel_rfl) (fun _ _ _ h => h) (Or.inl ⟨by rfl, ?hy17⟩) (by assumption) ?rest17
      case hy17 => (intro w hSw; (try dsimp only at hSw); go_simp; (try with_reducible rfl))
      (try simp only [Act.put, List.getElem_toArray, List.getElem_cons_zero, List.getElem_cons_succ, List.setIfInBounds_toArray, List.set_cons_zero, List.set_cons_succ])
      refine wpAnyH_take (i := 5) (oi := ({ dst := some 21, op := Go.Op.move (Go.Operand.tmp 6), type := 3, pos := "block.go:40", after := #[], guard := none } : Go.Oper)) (v := ?v18) rfl (by kernel_rfl) (by kernel_rfl) (by kernel_rfl) (fun _ _ _ h => h) (Or.inl ⟨by rfl, ?hy18⟩) (by assumption) ?rest18
      case hy18 => (intro w hSw; (try dsimp only at hSw); go_simp; (try with_reducible rfl))
      (try simp only [Act.put, List.getElem_toArray, List.getElem_cons_zero, List.getElem_cons_succ, List.setIfInBounds_toArray, List.set_cons_zero, List.set_cons_succ])
      refine wpAnyH_take (i := 6) (oi := ({ dst := some 22, op := Go.Op.slice 22 (Go.Operand.tmp 20) (some (Go.Operand.tmp 21)) none none, type := 22, pos := "block.go:40", after := #[{ on := 4, ground := Go.Ground.data }, { on := 5, ground := Go.Ground.data }], guard := none } : Go.Oper)) (v := ?v19) rfl (by kernel_rfl) (by kernel_rfl) (by kernel_rfl) (fun _ _ _ h => h) (Or.inl ⟨by rfl, ?hy19⟩) (by assumption) ?rest19
      case hy19 => (intro w hSw; (try dsimp only at hSw); go_simp; (try with_reducible rfl))
      (try simp only [Act.put, List.getElem_toArray, List.getElem_cons_zero, List.getElem_cons_succ, List.setIfInBounds_toArray, List.set_cons_zero, List.set_cons_succ])
      refine wpAnyH_take (i := 8) (oi := ({ dst := some 24, op := Go.Op.fieldAddr 28 (Go.Operand.tmp 3) 1, type := 0, pos := "block.go:40", after := #[], guard := none } : Go.Oper)) (v := ?v20) rfl (by kernel_rfl) (by kernel_rfl) (by kernel_rfl) (fun _ _ _ h => h) (Or.inl ⟨by rfl, ?hy20⟩) (by assumption) ?rest20
      case hy20 => (intro w hSw; (try dsimp only at hSw); go_simp; (try with_reducible rfl))
      (try simp only [Act.put, List.getElem_toArray, List.getElem_cons_zero, List.getElem_cons_succ, List.setIfInBounds_toArray, List.set_cons_zero, List.set_cons_succ])
      refine wpAnyH_take (i := 9) (oi := ({ dst := some 25, op := Go.Op.load 2 (Go.Operand.tmp 24), type := 2, pos := "block.go:40", after := #[{ on := 8, ground := Go.Ground.data }], guard := none } : Go.Oper)) (v := ?v21) rfl (by kernel_rfl) (by kernel_rfl) (by kernel_rfl) (fun _ _ _ h => h) (Or.inl ⟨by rfl, ?hy21⟩) (by assumption) ?rest21
      case hy21 => (intro w hSw; (try dsimp only at hSw); go_simp; (try with_reducible rfl))
      (try simp only [Act.put, List.getElem_toArray, List.getElem_cons_zero, List.getElem_cons_succ, List.setIfInBounds_toArray, List.set_cons_zero, List.set_cons_succ])
      refine wpAnyH_take (i := 10) (oi := ({ dst := some 26, op := Go.Op.convert 2 84 (Go.Operand.tmp 25), type := 84, pos := "block.go:40", after := #[{ on := 9, ground := Go.Ground.data }], guard := none } : Go.Oper)) (v := ?v22) rfl (by kernel_rfl) (by kernel_rfl) (by kernel_rfl) (fun _ _ _ h => h) (Or.inl ⟨by rfl, ?hy22⟩) (by assumption) ?rest22
      case hy22 => (intro w hSw; (try dsimp only at hSw); go_simp; (try with_reducible rfl))
      (try simp only [Act.put, List.getElem_toArray, List.getElem_cons_zero, List.getElem_cons_succ, List.setIfInBounds_toArray, List.set_cons_zero, List.set_cons_succ])
      refine wpAnyH_take (i := 12) (oi := ({ dst := some 28, op := Go.Op.fieldAddr 28 (Go.Operand.tmp 3) 2, type := 0, pos := "block.go:40", after := #[], guard := none } : Go.Oper)) (v := ?v23) rfl (by kernel_rfl) (by kernel_rfl) (by kernel_rfl) (fun _ _ _ h => h) (Or.inl ⟨by rfl, ?hy23⟩) (by assumption) ?rest23
      case hy23 => (intro w hSw; (try dsimp only at hSw); go_simp; (try with_reducible rfl))
      (try simp only [Act.put, List.getElem_toArray, List.getElem_cons_zero, List.getElem_cons_succ, List.setIfInBounds_toArray, List.set_cons_zero, List.set_cons_succ])
      refine wpAnyH_take (i := 13) (oi := ({ dst := some 29, op := Go.Op.load 26 (Go.Operand.tmp 28), type := 26, pos := "block.go:40", after := #[{ on := 12, ground := Go.Ground.data }], guard := none } : Go.Oper)) (v := ?v24) rfl (by kernel_rfl) (by kernel_rfl) (by kernel_rfl) (fun _ _ _ h => h) (Or.inl ⟨by rfl, ?hy24⟩) (by assumption) ?rest24
      case hy24 => (intro w hSw; (try dsimp only at hSw); go_simp; (try with_reducible rfl))
      (try simp only [Act.put, List.getElem_toArray, List.getElem_cons_zero, List.getElem_cons_succ, List.setIfInBounds_toArray, List.set_cons_zero, List.set_cons_succ])
      refine wpAnyH_take (i := 14) (oi := ({ dst := some 30, op := Go.Op.convert 26 84 (Go.Operand.tmp 29), type := 84, pos := "block.go:40", after := #[{ on := 13, ground := Go.Ground.data }], guard := none } : Go.Oper)) (v := ?v25) rfl (by kernel_rfl) (by kernel_rfl) (by kernel_rfl) (fun _ _ _ h => h) (Or.inl ⟨by rfl, ?hy25⟩) (by assumption) ?rest25
      case hy25 => (intro w hSw; (try dsimp only at hSw); go_simp; (try with_reducible rfl))
      (try simp only [Act.put, List.getElem_toArray, List.getElem_cons_zero, List.getElem_cons_succ, List.setIfInBounds_toArray, List.set_cons_zero, List.set_cons_succ])
      refine wpAnyH_ready (rs := [2]) (by kernel_rfl) (by simp) ?_
      refine AllReadyH.cons (o := ({ dst := some 18, op := Go.Op.call { callee := Go.Callee.value (Go.Operand.func 71), args := #[Go.Operand.tmp 17], argTypes := #[84] }, type := 22, pos := "block.go:40", after := #[{ on := 1, ground := Go.Ground.data }], guard := none } : Go.Oper)) rfl (fun K hK => ?_) AllReadyH.nil
      go_simp
      (first | (go_at_call 72; refine (wbytes_any _ _ _ (x.key.drop k) _ (KD.ext (X0A.trans (by with_reducible (repeat (first | exact Ext.rfl_ _ | assumption | refine Ext.drew ?_ | refine Ext.drewN ?_ _ | refine Ext.alloc ?_ _ | refine Ext.trans ?_ (by assumption)))))) (by unfold B40; omega)).mono ?_; rintro e w2 ⟨v2, rfl, o2, hw2⟩; obtain ⟨A2, n2, c2, rfl, l2, r2, i2⟩ := o2.formN) | (go_at_call_of 71 (Value.int .u64 x.seq); refine (number_z x.seq _ (by omega) (by omega)).mono ?_; rintro e w3 ⟨v3, rfl, o3, hw3⟩; obtain ⟨A3, n3, c3, rfl, l3, r3, i3⟩ := o3.formN) | (go_at_call_of 71 (Value.int .u64 x.kind); refine (number_z x.kind _ (by omega) (by omega)).mono ?_; rintro e w4 ⟨v4, rfl, o4, hw4⟩; obtain ⟨A4, n4, c4, rfl, l4, r4, i4⟩ := o4.formN) | (go_at_call 70; refine (join_any _ 4 4 [numB ((k : Nat) : Int).toNat, bytB (x.key.drop k), numB x.seq.toNat, numB x.kind.toNat] _ (RdBB.new4 (r1.ext (by with_reducible (repeat (first | exact Ext.rfl_ _ | assumption | refine Ext.drew ?_ | refine Ext.drewN ?_ _ | refine Ext.alloc ?_ _ | refine Ext.trans ?_ (by assumption))))) (r2.ext (by with_reducible (repeat (first | exact Ext.rfl_ _ | assumption | refine Ext.drew ?_ | refine Ext.drewN ?_ _ | refine Ext.alloc ?_ _ | refine Ext.trans ?_ (by assumption))))) (r3.ext (by with_reducible (repeat (first | exact Ext.rfl_ _ | assumption | refine Ext.drew ?_ | refine Ext.drewN ?_ _ | refine Ext.alloc ?_ _ | refine Ext.trans ?_ (by assumption))))) (r4.ext (by with_reducible (repeat (first | exact Ext.rfl_ _ | assumption | refine Ext.drew ?_ | refine Ext.drewN ?_ _ | refine Ext.alloc ?_ _ | refine Ext.trans ?_ (by assumption)))))) (by decide) (by unfold B47; omega)).mono ?_; rintro e w5 ⟨v5, rfl, o5, hw5⟩; obtain ⟨A5, n5, c5, rfl, l5, r5, i5⟩ := o5.formN) | (go_at_call 71; refine (number_z (k : Int) _ (by omega) (by omega)).mono ?_; rintro e w1 ⟨v1, rfl, o1, hw1⟩; obtain ⟨A1, n1, c1, rfl, l1, r1, i1⟩ := o1.formN))
      (try (go_wp2_with fail))
      refine hK.out _ _ (by (try dsimp only); exact box4 HBX.out (by with_reducible (repeat (first | exact Ext.rfl_ _ | assumption | refine Ext.drew ?_ | refine Ext.drewN ?_ _ | refine Ext.alloc ?_ _ | refine Ext.trans ?_ (by assumption))))) (fun hHeld => ?_)
      clear hK K
      (try simp only [Act.put, List.getElem_toArray, List.getElem_cons_zero, List.getElem_cons_succ, List.setIfInBounds_toArray, List.set_cons_zero, List.set_cons_succ])
      refine wpAnyH_ready (rs := [7]) (by kernel_rfl) (by simp) ?_
      refine AllReadyH.cons (o := ({ dst := some 23, op := Go.Op.call { callee := Go.Callee.value (Go.Operand.func 72), args := #[Go.Operand.tmp 22], argTypes := #[22] }, type := 22, pos := "block.go:40", after := #[{ on := 6, ground := Go.Ground.data }, { on := 2, ground := Go.Ground.chain }], guard := none } : Go.Oper)) rfl (fun K hK => ?_) AllReadyH.nil
      go_simp
      (first | (go_at_call 72; refine (wbytes_any _ _ _ (x.key.drop k) _ (KD.ext (X0A.trans (by with_reducible (repeat (first | exact Ext.rfl_ _ | assumption | refine Ext.drew ?_ | refine Ext.drewN ?_ _ | refine Ext.alloc ?_ _ | refine Ext.trans ?_ (by assumption)))))) (by unfold B40; omega)).mono ?_; rintro e w2 ⟨v2, rfl, o2, hw2⟩; obtain ⟨A2, n2, c2, rfl, l2, r2, i2⟩ := o2.formN) | (go_at_call_of 71 (Value.int .u64 x.seq); refine (number_z x.seq _ (by omega) (by omega)).mono ?_; rintro e w3 ⟨v3, rfl, o3, hw3⟩; obtain ⟨A3, n3, c3, rfl, l3, r3, i3⟩ := o3.formN) | (go_at_call_of 71 (Value.int .u64 x.kind); refine (number_z x.kind _ (by omega) (by omega)).mono ?_; rintro e w4 ⟨v4, rfl, o4, hw4⟩; obtain ⟨A4, n4, c4, rfl, l4, r4, i4⟩ := o4.formN) | (go_at_call 70; refine (join_any _ 4 4 [numB ((k : Nat) : Int).toNat, bytB (x.key.drop k), numB x.seq.toNat, numB x.kind.toNat] _ (RdBB.new4 (r1.ext (by with_reducible (repeat (first | exact Ext.rfl_ _ | assumption | refine Ext.drew ?_ | refine Ext.drewN ?_ _ | refine Ext.alloc ?_ _ | refine Ext.trans ?_ (by assumption))))) (r2.ext (by with_reducible (repeat (first | exact Ext.rfl_ _ | assumption | refine Ext.drew ?_ | refine Ext.drewN ?_ _ | refine Ext.alloc ?_ _ | refine Ext.trans ?_ (by assumption))))) (r3.ext (by with_reducible (repeat (first | exact Ext.rfl_ _ | assumption | refine Ext.drew ?_ | refine Ext.drewN ?_ _ | refine Ext.alloc ?_ _ | refine Ext.trans ?_ (by assumption))))) (r4.ext (by with_reducible (repeat (first | exact Ext.rfl_ _ | assumption | refine Ext.drew ?_ | refine Ext.drewN ?_ _ | refine Ext.alloc ?_ _ | refine Ext.trans ?_ (by assumption)))))) (by decide) (by unfold B47; omega)).mono ?_; rintro e w5 ⟨v5, rfl, o5, hw5⟩; obtain ⟨A5, n5, c5, rfl, l5, r5, i5⟩ := o5.formN) | (go_at_call 71; refine (number_z (k : Int) _ (by omega) (by omega)).mono ?_; rintro e w1 ⟨v1, rfl, o1, hw1⟩; obtain ⟨A1, n1, c1, rfl, l1, r1, i1⟩ := o1.formN))
      (try (go_wp2_with fail))
      refine hK.out _ _ (by (try dsimp only); exact box4 HBX.out (by with_reducible (repeat (first | exact Ext.rfl_ _ | assumption | refine Ext.drew ?_ | refine Ext.drewN ?_ _ | refine Ext.alloc ?_ _ | refine Ext.trans ?_ (by assumption))))) (fun hHeld => ?_)
      clear hK K
      (try simp only [Act.put, List.getElem_toArray, List.getElem_cons_zero, List.getElem_cons_succ, List.setIfInBounds_toArray, List.set_cons_zero, List.set_cons_succ])
      refine wpAnyH_ready (rs := [11]) (by kernel_rfl) (by simp) ?_
      refine AllReadyH.cons (o := ({ dst := some 27, op := Go.Op.call { callee := Go.Callee.value (Go.Operand.func 71), args := #[Go.Operand.tmp 26], argTypes := #[84] }, type := 22, pos := "block.go:40", after := #[{ on := 10, ground := Go.Ground.data }, { on := 7, ground := Go.Ground.chain }], guard := none } : Go.Oper)) rfl (fun K hK => ?_) AllReadyH.nil
      go_simp
      (first | (go_at_call 72; refine (wbytes_any _ _ _ (x.key.drop k) _ (KD.ext (X0A.trans (by with_reducible (repeat (first | exact Ext.rfl_ _ | assumption | refine Ext.drew ?_ | refine Ext.drewN ?_ _ | refine Ext.alloc ?_ _ | refine Ext.trans ?_ (by assumption)))))) (by unfold B40; omega)).mono ?_; rintro e w2 ⟨v2, rfl, o2, hw2⟩; obtain ⟨A2, n2, c2, rfl, l2, r2, i2⟩ := o2.formN) | (go_at_call_of 71 (Value.int .u64 x.seq); refine (number_z x.seq _ (by omega) (by omega)).mono ?_; rintro e w3 ⟨v3, rfl, o3, hw3⟩; obtain ⟨A3, n3, c3, rfl, l3, r3, i3⟩ := o3.formN) | (go_at_call_of 71 (Value.int .u64 x.kind); refine (number_z x.kind _ (by omega) (by omega)).mono ?_; rintro e w4 ⟨v4, rfl, o4, hw4⟩; obtain ⟨A4, n4, c4, rfl, l4, r4, i4⟩ := o4.formN) | (go_at_call 70; refine (join_any _ 4 4 [numB ((k : Nat) : Int).toNat, bytB (x.key.drop k), numB x.seq.toNat, numB x.kind.toNat] _ (RdBB.new4 (r1.ext (by with_reducible (repeat (first | exact Ext.rfl_ _ | assumption | refine Ext.drew ?_ | refine Ext.drewN ?_ _ | refine Ext.alloc ?_ _ | refine Ext.trans ?_ (by assumption))))) (r2.ext (by with_reducible (repeat (first | exact Ext.rfl_ _ | assumption | refine Ext.drew ?_ | refine Ext.drewN ?_ _ | refine Ext.alloc ?_ _ | refine Ext.trans ?_ (by assumption))))) (r3.ext (by with_reducible (repeat (first | exact Ext.rfl_ _ | assumption | refine Ext.drew ?_ | refine Ext.drewN ?_ _ | refine Ext.alloc ?_ _ | refine Ext.trans ?_ (by assumption))))) (r4.ext (by with_reducible (repeat (first | exact Ext.rfl_ _ | assumption | refine Ext.drew ?_ | refine Ext.drewN ?_ _ | refine Ext.alloc ?_ _ | refine Ext.trans ?_ (by assumption)))))) (by decide) (by unfold B47; omega)).mono ?_; rintro e w5 ⟨v5, rfl, o5, hw5⟩; obtain ⟨A5, n5, c5, rfl, l5, r5, i5⟩ := o5.formN) | (go_at_call 71; refine (number_z (k : Int) _ (by omega) (by omega)).mono ?_; rintro e w1 ⟨v1, rfl, o1, hw1⟩; obtain ⟨A1, n1, c1, rfl, l1, r1, i1⟩ := o1.formN))
      (try (go_wp2_with fail))
      refine hK.out _ _ (by (try dsimp only); exact box4 HBX.out (by with_reducible (repeat (first | exact Ext.rfl_ _ | assumption | refine Ext.drew ?_ | refine Ext.drewN ?_ _ | refine Ext.alloc ?_ _ | refine Ext.trans ?_ (by assumption))))) (fun hHeld => ?_)
      clear hK K
      (try simp only [Act.put, List.getElem_toArray, List.getElem_cons_zero, List.getElem_cons_succ, List.setIfInBounds_toArray, List.set_cons_zero, List.set_cons_succ])
      refine wpAnyH_ready (rs := [15]) (by kernel_rfl) (by simp) ?_
      refine AllReadyH.cons (o := ({ dst := some 31, op := Go.Op.call { callee := Go.Callee.value (Go.Operand.func 71), args := #[Go.Operand.tmp 30], argTypes := #[84] }, type := 22, pos := "block.go:40", after := #[{ on := 14, ground := Go.Ground.data }, { on := 11, ground := Go.Ground.chain }], guard := none } : Go.Oper)) rfl (fun K hK => ?_) AllReadyH.nil
      go_simp
      (first | (go_at_call 72; refine (wbytes_any _ _ _ (x.key.drop k) _ (KD.ext (X0A.trans (by with_reducible (repeat (first | exact Ext.rfl_ _ | assumption | refine Ext.drew ?_ | refine Ext.drewN ?_ _ | refine Ext.alloc ?_ _ | refine Ext.trans ?_ (by assumption)))))) (by unfold B40; omega)).mono ?_; rintro e w2 ⟨v2, rfl, o2, hw2⟩; obtain ⟨A2, n2, c2, rfl, l2, r2, i2⟩ := o2.formN) | (go_at_call_of 71 (Value.int .u64 x.seq); refine (number_z x.seq _ (by omega) (by omega)).mono ?_; rintro e w3 ⟨v3, rfl, o3, hw3⟩; obtain ⟨A3, n3, c3, rfl, l3, r3, i3⟩ := o3.formN) | (go_at_call_of 71 (Value.int .u64 x.kind); refine (number_z x.kind _ (by omega) (by omega)).mono ?_; rintro e w4 ⟨v4, rfl, o4, hw4⟩; obtain ⟨A4, n4, c4, rfl, l4, r4, i4⟩ := o4.formN) | (go_at_call 70; refine (join_any _ 4 4 [numB ((k : Nat) : Int).toNat, bytB (x.key.drop k), numB x.seq.toNat, numB x.kind.toNat] _ (RdBB.new4 (r1.ext (by with_reducible (repeat (first | exact Ext.rfl_ _ | assumption | refine Ext.drew ?_ | refine Ext.drewN ?_ _ | refine Ext.alloc ?_ _ | refine Ext.trans ?_ (by assumption))))) (r2.ext (by with_reducible (repeat (first | exact Ext.rfl_ _ | assumption | refine Ext.drew ?_ | refine Ext.drewN ?_ _ | refine Ext.alloc ?_ _ | refine Ext.trans ?_ (by assumption))))) (r3.ext (by with_reducible (repeat (first | exact Ext.rfl_ _ | assumption | refine Ext.drew ?_ | refine Ext.drewN ?_ _ | refine Ext.alloc ?_ _ | refine Ext.trans ?_ (by assumption))))) (r4.ext (by with_reducible (repeat (first | exact Ext.rfl_ _ | assumption | refine Ext.drew ?_ | refine Ext.drewN ?_ _ | refine Ext.alloc ?_ _ | refine Ext.trans ?_ (by assumption)))))) (by decide) (by unfold B47; omega)).mono ?_; rintro e w5 ⟨v5, rfl, o5, hw5⟩; obtain ⟨A5, n5, c5, rfl, l5, r5, i5⟩ := o5.formN) | (go_at_call 71; refine (number_z (k : Int) _ (by omega) (by omega)).mono ?_; rintro e w1 ⟨v1, rfl, o1, hw1⟩; obtain ⟨A1, n1, c1, rfl, l1, r1, i1⟩ := o1.formN))
      (try (go_wp2_with fail))
      refine hK.out _ _ (by (try dsimp only); exact box4 HBX.out (by with_reducible (repeat (first | exact Ext.rfl_ _ | assumption | refine Ext.drew ?_ | refine Ext.drewN ?_ _ | refine Ext.alloc ?_ _ | refine Ext.trans ?_ (by assumption))))) (fun hHeld => ?_)
      clear hK K
      (try simp only [Act.put, List.getElem_toArray, List.getElem_cons_zero, List.getElem_cons_succ, List.setIfInBounds_toArray, List.set_cons_zero, List.set_cons_succ])
      refine wpAnyH_ready (rs := [16]) (by kernel_rfl) (by simp) ?_
      refine AllReadyH.cons (o := ({ dst := some 32, op := Go.Op.buildSlice 100 4 #[(0, Go.Operand.tmp 18), (1, Go.Operand.tmp 23), (2, Go.Operand.tmp 27), (3, Go.Operand.tmp 31)], type := 100, pos := "block.go:40", after := #[{ on := 2, ground := Go.Ground.data }, { on := 7, ground := Go.Ground.data }, { on := 11, ground := Go.Ground.data }, { on := 15, ground := Go.Ground.data }], guard := none } : Go.Oper)) rfl (fun K hK => ?_) AllReadyH.nil
      go_simp
      refine hK.out _ _ (by (try dsimp only); exact box4 HBX.out (by with_reducible (repeat (first | exact Ext.rfl_ _ | assumption | refine Ext.drew ?_ | refine Ext.drewN ?_ _ | refine Ext.alloc ?_ _ | refine Ext.trans ?_ (by assumption))))) (fun hHeld => ?_)
      clear hK K
      (try simp only [Act.put, List.getElem_toArray, List.getElem_cons_zero, List.getElem_cons_succ, List.setIfInBounds_toArray, List.set_cons_zero, List.set_cons_succ])
      refine wpAnyH_ready (rs := [17]) (by kernel_rfl) (by simp) ?_
      refine AllReadyH.cons (o := ({ dst := some 33, op := Go.Op.call { callee := Go.Callee.value (Go.Operand.func 70), args := #[Go.Operand.tmp 32], argTypes := #[100] }, type := 22, pos := "block.go:40", after := #[{ on := 16, ground := Go.Ground.data }, { on := 15, ground := Go.Ground.chain }], guard := none } : Go.Oper)) rfl (fun K hK => ?_) AllReadyH.nil
      go_simp
      (first | (go_at_call 72; refine (wbytes_any _ _ _ (x.key.drop k) _ (KD.ext (X0A.trans (by with_reducible (repeat (first | exact Ext.rfl_ _ | assumption | refine Ext.drew ?_ | refine Ext.drewN ?_ _ | refine Ext.alloc ?_ _ | refine Ext.trans ?_ (by assumption)))))) (by unfold B40; omega)).mono ?_; rintro e w2 ⟨v2, rfl, o2, hw2⟩; obtain ⟨A2, n2, c2, rfl, l2, r2, i2⟩ := o2.formN) | (go_at_call_of 71 (Value.int .u64 x.seq); refine (number_z x.seq _ (by omega) (by omega)).mono ?_; rintro e w3 ⟨v3, rfl, o3, hw3⟩; obtain ⟨A3, n3, c3, rfl, l3, r3, i3⟩ := o3.formN) | (go_at_call_of 71 (Value.int .u64 x.kind); refine (number_z x.kind _ (by omega) (by omega)).mono ?_; rintro e w4 ⟨v4, rfl, o4, hw4⟩; obtain ⟨A4, n4, c4, rfl, l4, r4, i4⟩ := o4.formN) | (go_at_call 70; refine (join_any _ 4 4 [numB ((k : Nat) : Int).toNat, bytB (x.key.drop k), numB x.seq.toNat, numB x.kind.toNat] _ (RdBB.new4 (r1.ext (by with_reducible (repeat (first | exact Ext.rfl_ _ | assumption | refine Ext.drew ?_ | refine Ext.drewN ?_ _ | refine Ext.alloc ?_ _ | refine Ext.trans ?_ (by assumption))))) (r2.ext (by with_reducible (repeat (first | exact Ext.rfl_ _ | assumption | refine Ext.drew ?_ | refine Ext.drewN ?_ _ | refine Ext.alloc ?_ _ | refine Ext.trans ?_ (by assumption))))) (r3.ext (by with_reducible (repeat (first | exact Ext.rfl_ _ | assumption | refine Ext.drew ?_ | refine Ext.drewN ?_ _ | refine Ext.alloc ?_ _ | refine Ext.trans ?_ (by assumption))))) (r4.ext (by with_reducible (repeat (first | exact Ext.rfl_ _ | assumption | refine Ext.drew ?_ | refine Ext.drewN ?_ _ | refine Ext.alloc ?_ _ | refine Ext.trans ?_ (by assumption)))))) (by decide) (by unfold B47; omega)).mono ?_; rintro e w5 ⟨v5, rfl, o5, hw5⟩; obtain ⟨A5, n5, c5, rfl, l5, r5, i5⟩ := o5.formN) | (go_at_call 71; refine (number_z (k : Int) _ (by omega) (by omega)).mono ?_; rintro e w1 ⟨v1, rfl, o1, hw1⟩; obtain ⟨A1, n1, c1, rfl, l1, r1, i1⟩ := o1.formN))
      (try (go_wp2_with fail))
      refine hK.out _ _ (by (try dsimp only); exact box4 HBX.out (by with_reducible (repeat (first | exact Ext.rfl_ _ | assumption | refine Ext.drew ?_ | refine Ext.drewN ?_ _ | refine Ext.alloc ?_ _ | refine Ext.trans ?_ (by assumption))))) (fun hHeld => ?_)
      clear hK K
      (try simp only [Act.put, List.getElem_toArray, List.getElem_cons_zero, List.getElem_cons_succ, List.setIfInBounds_toArray, List.set_cons_zero, List.set_cons_succ])
      refine wpAnyH_take (i := 18) (oi := ({ dst := some 7, op := Go.Op.assign (Go.Operand.tmp 33), type := 22, pos := "block.go:40", after := #[{ on := 17, ground := Go.Ground.data }, { on := 17, ground := Go.Ground.chain }, { on := 0, ground := Go.Ground.phase }, { on := 1, ground := Go.Ground.phase }, { on := 2, ground := Go.Ground.phase }, { on := 3, ground := Go.Ground.phase }, { on := 4, ground := Go.Ground.phase }, { on := 5, ground := Go.Ground.phase }, { on := 6, ground := Go.Ground.phase }, { on := 7, ground := Go.Ground.phase }, { on := 8, ground := Go.Ground.phase }, { on := 9, ground := Go.Ground.phase }, { on := 10, ground := Go.Ground.phase }, { on := 11, ground := Go.Ground.phase }, { on := 12, ground := Go.Ground.phase }, { on := 13, ground := Go.Ground.phase }, { on := 14, ground := Go.Ground.phase }, { on := 15, ground := Go.Ground.phase }, { on := 16, ground := Go.Ground.phase }, { on := 17, ground := Go.Ground.phase }], guard := none } : Go.Oper)) (v := ?v26) rfl (by kernel_rfl) (by kernel_rfl) (by kernel_rfl) (fun _ _ _ h => h) (Or.inl ⟨by rfl, ?hy26⟩) (by assumption) ?rest26
      case hy26 => (intro w hSw; (try dsimp only at hSw); go_simp; (try with_reducible rfl))
      (try simp only [Act.put, List.getElem_toArray, List.getElem_cons_zero, List.getElem_cons_succ, List.setIfInBounds_toArray, List.set_cons_zero, List.set_cons_succ])
      refine wpAnyH_done (by kernel_rfl) ?_ _
      all_goals
        have X5 := Lib.hid (show Ext wA w5 from (by with_reducible (repeat (first | exact Ext.rfl_ _ | assumption | refine Ext.drew ?_ | refine Ext.drewN ?_ _ | refine Ext.alloc ?_ _ | refine Ext.trans ?_ (by assumption)))))
        obtain ⟨g0, g1, g2, g3, f0, f1, f2, f3⟩ := box4 HBX.out X5.out
        have base5 : wA.heap.size ≤ (w4.alloc (.cells #[.slice A1 n1 c1, .slice A2 n2 c2, .slice A3 n3 c3, .slice A4 n4 c4] 22)).heap.size := Ext.size (w := wA) (w' := w4.alloc _) (by with_reducible (repeat (first | exact Ext.rfl_ _ | assumption | refine Ext.drew ?_ | refine Ext.drewN ?_ _ | refine Ext.alloc ?_ _ | refine Ext.trans ?_ (by assumption))))
        have R5 := Lib.hid r5
        have O5 := Lib.hid o5
        clear hw1 hw2 hw3 hw4 hw5 o1 o2 o3 o4 o5 r1 r2 r3 r4 r5
        rcases HK.out with hk | hk
        · have hkb : (x.kind == 1) = true := by simpa using hk
          have HK1 := Lib.hid hk
          clear hk
          go_wp2_with fail
          refine (wbytes_any A' n' c' x.val _ (KY.out.ext (X0A.trans (X5.out.trans (by with_reducible (repeat (first | exact Ext.rfl_ _ | assumption | refine Ext.drew ?_ | refine Ext.drewN ?_ _ | refine Ext.alloc ?_ _ | refine Ext.trans ?_ (by assumption))))))) (by unfold B40; omega)).mono ?_
          rintro e w6 ⟨v6, rfl, o6, hw6⟩
          obtain ⟨A6, n6, c6, rfl, l6, r6, i6⟩ := o6.formN
          go_wp2_with fail
          refine (join_any _ 2 2 [[numB ((k : Nat) : Int).toNat, bytB (x.key.drop k), numB x.seq.toNat, numB x.kind.toNat].flatten, bytB x.val] _ (RdBB.new2 (R5.out.ext (by with_reducible (repeat (first | exact Ext.rfl_ _ | assumption | refine Ext.drew ?_ | refine Ext.drewN ?_ _ | refine Ext.alloc ?_ _ | refine Ext.trans ?_ (by assumption))))) (r6.ext (by with_reducible (repeat (first | exact Ext.rfl_ _ | assumption | refine Ext.drew ?_ | refine Ext.drewN ?_ _ | refine Ext.alloc ?_ _ | refine Ext.trans ?_ (by assumption)))))) (by decide) (by rw [List.flatten_cons, List.length_append]; unfold B47; simp at hsum1 ⊢; omega)).mono ?_
          rintro e w7 ⟨v7, rfl, o7, hw7⟩
          have X7 : Ext wA w7 := X5.out.trans (by with_reducible (repeat (first | exact Ext.rfl_ _ | assumption | refine Ext.drew ?_ | refine Ext.drewN ?_ _ | refine Ext.alloc ?_ _ | refine Ext.trans ?_ (by assumption))))
          have base7 : w5.heap.size ≤ w6.heap.size := Ext.size (w := w5) (w' := w6) (by with_reducible (repeat (first | exact Ext.rfl_ _ | assumption | refine Ext.drew ?_ | refine Ext.drewN ?_ _ | refine Ext.alloc ?_ _ | refine Ext.trans ?_ (by assumption))))
          have base8 : wA.heap.size ≤ w5.heap.size := Ext.size X5.out
          go_wp2
          go_ret
          refine ⟨v7, rfl, ?_, ⟨_, _, k, X7.blk HGA.out, KX.out, hnc, by omega⟩, CA.out.ext X7⟩
          have e7 : OwnB w7 w.heap.size v7 [[numB ((k : Nat) : Int).toNat, bytB (x.key.drop k), numB x.seq.toNat, numB x.kind.toNat].flatten, bytB x.val].flatten := o7.mono (by rw [World.size_alloc]; omega)
          rw [blkE_put (k := k) (by first | rfl | (rw [KS.out]; rfl)) HK1.out]
          exact e7
        · have hkb : (x.kind == 1) = false := by simp; omega
          have HK1 := Lib.hid hk
          clear hk
          go_wp2
          go_ret
          refine ⟨_, rfl, ?_, ⟨_, _, k, X5.out.blk HGA.out, KX.out, hnc, by omega⟩, CA.out.ext X5.out⟩
          have e7 : OwnB w5 w.heap.size _ [numB ((k : Nat) : Int).toNat, bytB (x.key.drop k), numB x.seq.toNat, numB x.kind.toNat].flatten := O5.out.mono (by omega)
          rw [blkE_del (k := k) (by first | rfl | (rw [KS.out]; rfl)) (by rw [HK1.out]; decide)]
          exact e7
    · have KD : Rd w0 (some ⟨b, o + k, none⟩) (n - k) (x.key.drop k) := KX.out.tail hkn
      have hkc2 : k < c := by omega
      refine wp_region_held_drew (S := (fun w' => w'.cell? ⟨w.heap.size, 0, none⟩ = some (.slice (some ⟨b, o, none⟩) n c) ∧ w'.cell? ⟨w.heap.size, 1, none⟩ = some (.int .i64 x.seq) ∧ w'.cell? ⟨w.heap.size, 2, none⟩ = some (.int .i64 x.kind) ∧ w'.cell? ⟨w.heap.size, 3, none⟩ = some (.slice A' n' c') ∧ w'.frozen? ⟨w.heap.size, 0, none⟩ = false ∧ w'.frozen? ⟨w.heap.size, 1, none⟩ = false ∧ w'.frozen? ⟨w.heap.size, 2, none⟩ = false ∧ w'.frozen? ⟨w.heap.size, 3, none⟩ = false)) (by kernel_rfl) (by (try dsimp only); exact box4 HBX.out (by with_reducible (repeat (first | exact Ext.rfl_ _ | assumption | refine Ext.drew ?_ | refine Ext.drewN ?_ _ | refine Ext.alloc ?_ _ | refine Ext.trans ?_ (by assumption))))) (fun hHeld => ?_)
      refine wpAnyH_take (i := 0) (oi := ({ dst := some 16, op := Go.Op.move (Go.Operand.tmp 6), type := 3, pos := "block.go:40", after := #[], guard := none } : Go.Oper)) (v := ?v27) rfl (by kernel_rfl) (by kernel_rfl) (by kernel_rfl) (fun _ _ _ h => h) (Or.inl ⟨by rfl, ?hy27⟩) (by assumption) ?rest27
      case hy27 => (intro w hSw; (try dsimp only at hSw); go_simp; (try with_reducible rfl))
      (try simp only [Act.put, List.getElem_toArray, List.getElem_cons_zero, List.getElem_cons_succ, List.setIfInBounds_toArray, List.set_cons_zero, List.set_cons_succ])
      refine wpAnyH_take (i := 1) (oi := ({ dst := some 17, op := Go.Op.convert 3 84 (Go.Operand.tmp 16), type := 84, pos := "block.go:40", after := #[{ on := 0, ground := Go.Ground.data }], guard := none } : Go.Oper)) (v := ?v28) rfl (by kernel_rfl) (by kernel_rfl) (by kernel_rfl) (fun _ _ _ h => h) (Or.inl ⟨by rfl, ?hy28⟩) (by assumption) ?rest28
      case hy28 => (intro w hSw; (try dsimp only at hSw); go_simp; (try with_reducible rfl))
      (try simp only [Act.put, List.getElem_toArray, List.getElem_cons_zero, List.getElem_cons_succ, List.setIfInBounds_toArray, List.set_cons_zero, List.set_cons_succ])
      refine wpAnyH_take (i := 3) (oi := ({ dst := some 19, op := Go.Op.fieldAddr 28 (Go.Operand.tmp 3) 0, type := 0, pos := "block.go:40", after := #[], guard := none } : Go.Oper)) (v := ?v29) rfl (by kernel_rfl) (by kernel_rfl) (by kernel_rfl) (fun _ _ _ h => h) (Or.inl ⟨by rfl, ?hy29⟩) (by assumption) ?rest29
      case hy29 => (intro w hSw; (try dsimp only at hSw); go_simp; (try with_reducible rfl))
      (try simp only [Act.put, List.getElem_toArray, List.getElem_cons_zero, List.getElem_cons_succ, List.setIfInBounds_toArray, List.set_cons_zero, List.set_cons_succ])
      refine wpAnyH_take (i := 4) (oi := ({ dst := some 20, op := Go.Op.load 22 (Go.Operand.tmp 19), type := 22, pos := "block.go:40", after := #[{ on := 3, ground := Go.Ground.data }], guard := none } : Go.Oper)) (v := ?v30) rfl (by kernel_rfl) (by kernel_rfl) (by kernel_rfl) (fun _ _ _ h => h) (Or.inl ⟨by rfl, ?hy30⟩) (by assumption) ?rest30
      case hy30 => (intro w hSw; (try dsimp only at hSw); go_simp; (try with_reducible rfl))
      (try simp only [Act.put, List.getElem_toArray, List.getElem_cons_zero, List.getElem_cons_succ, List.setIfInBounds_toArray, List.set_cons_zero, List.set_cons_succ])
      refine wpAnyH_take (i := 5) (oi := ({ dst := some 21, op := Go.Op.move (Go.Operand.tmp 6), type := 3, pos := "block.go:40", after := #[], guard := none } : Go.Oper)) (v := ?v31) rfl (by kernel_rfl) (by kernel_rfl) (by kernel_rfl) (fun _ _ _ h => h) (Or.inl ⟨by rfl, ?hy31⟩) (by assumption) ?rest31
      case hy31 => (intro w hSw; (try dsimp only at hSw); go_simp; (try with_reducible rfl))
      (try simp only [Act.put, List.getElem_toArray, List.getElem_cons_zero, List.getElem_cons_succ, List.setIfInBounds_toArray, List.set_cons_zero, List.set_cons_succ])
      refine wpAnyH_take (i := 6) (oi := ({ dst := some 22, op := Go.Op.slice 22 (Go.Operand.tmp 20) (some (Go.Operand.tmp 21)) none none, type := 22, pos := "block.go:40", after := #[{ on := 4, ground := Go.Ground.data }, { on := 5, ground := Go.Ground.data }], guard := none } : Go.Oper)) (v := ?v32) rfl (by kernel_rfl) (by kernel_rfl) (by kernel_rfl) (fun _ _ _ h => h) (Or.inl ⟨by rfl, ?hy32⟩) (by assumption) ?rest32
      case hy32 => (intro w hSw; (try dsimp only at hSw); go_simp; (try with_reducible rfl))
      (try simp only [Act.put, List.getElem_toArray, List.getElem_cons_zero, List.getElem_cons_succ, List.setIfInBounds_toArray, List.set_cons_zero, List.set_cons_succ])
      refine wpAnyH_take (i := 8) (oi := ({ dst := some 24, op := Go.Op.fieldAddr 28 (Go.Operand.tmp 3) 1, type := 0, pos := "block.go:40", after := #[], guard := none } : Go.Oper)) (v := ?v33) rfl (by kernel_rfl) (by kernel_rfl) (by kernel_rfl) (fun _ _ _ h => h) (Or.inl ⟨by rfl, ?hy33⟩) (by assumption) ?rest33
      case hy33 => (intro w hSw; (try dsimp only at hSw); go_simp; (try with_reducible rfl))
      (try simp only [Act.put, List.getElem_toArray, List.getElem_cons_zero, List.getElem_cons_succ, List.setIfInBounds_toArray, List.set_cons_zero, List.set_cons_succ])
      refine wpAnyH_take (i := 9) (oi := ({ dst := some 25, op := Go.Op.load 2 (Go.Operand.tmp 24), type := 2, pos := "block.go:40", after := #[{ on := 8, ground := Go.Ground.data }], guard := none } : Go.Oper)) (v := ?v34) rfl (by kernel_rfl) (by kernel_rfl) (by kernel_rfl) (fun _ _ _ h => h) (Or.inl ⟨by rfl, ?hy34⟩) (by assumption) ?rest34
      case hy34 => (intro w hSw; (try dsimp only at hSw); go_simp; (try with_reducible rfl))
      (try simp only [Act.put, List.getElem_toArray, List.getElem_cons_zero, List.getElem_cons_succ, List.setIfInBounds_toArray, List.set_cons_zero, List.set_cons_succ])
      refine wpAnyH_take (i := 10) (oi := ({ dst := some 26, op := Go.Op.convert 2 84 (Go.Operand.tmp 25), type := 84, pos := "block.go:40", after := #[{ on := 9, ground := Go.Ground.data }], guard := none } : Go.Oper)) (v := ?v35) rfl (by kernel_rfl) (by kernel_rfl) (by kernel_rfl) (fun _ _ _ h => h) (Or.inl ⟨by rfl, ?hy35⟩) (by assumption) ?rest35
      case hy35 => (intro w hSw; (try dsimp only at hSw); go_simp; (try with_reducible rfl))
      (try simp only [Act.put, List.getElem_toArray, List.getElem_cons_zero, List.getElem_cons_succ, List.setIfInBounds_toArray, List.set_cons_zero, List.set_cons_succ])
      refine wpAnyH_take (i := 12) (oi := ({ dst := some 28, op := Go.Op.fieldAddr 28 (Go.Operand.tmp 3) 2, type := 0, pos := "block.go:40", after := #[], guard := none } : Go.Oper)) (v := ?v36) rfl (by kernel_rfl) (by kernel_rfl) (by kernel_rfl) (fun _ _ _ h => h) (Or.inl ⟨by rfl, ?hy36⟩) (by assumption) ?rest36
      case hy36 => (intro w hSw; (try dsimp only at hSw); go_simp; (try with_reducible rfl))
      (try simp only [Act.put, List.getElem_toArray, List.getElem_cons_zero, List.getElem_cons_succ, List.setIfInBounds_toArray, List.set_cons_zero, List.set_cons_succ])
      refine wpAnyH_take (i := 13) (oi := ({ dst := some 29, op := Go.Op.load 26 (Go.Operand.tmp 28), type := 26, pos := "block.go:40", after := #[{ on := 12, ground := Go.Ground.data }], guard := none } : Go.Oper)) (v := ?v37) rfl (by kernel_rfl) (by kernel_rfl) (by kernel_rfl) (fun _ _ _ h => h) (Or.inl ⟨by rfl, ?hy37⟩) (by assumption) ?rest37
      case hy37 => (intro w hSw; (try dsimp only at hSw); go_simp; (try with_reducible rfl))
      (try simp only [Act.put, List.getElem_toArray, List.getElem_cons_zero, List.getElem_cons_succ, List.setIfInBounds_toArray, List.set_cons_zero, List.set_cons_succ])
      refine wpAnyH_take (i := 14) (oi := ({ dst := some 30, op := Go.Op.convert 26 84 (Go.Operand.tmp 29), type := 84, pos := "block.go:40", after := #[{ on := 13, ground := Go.Ground.data }], guard := none } : Go.Oper)) (v := ?v38) rfl (by kernel_rfl) (by kernel_rfl) (by kernel_rfl) (fun _ _ _ h => h) (Or.inl ⟨by rfl, ?hy38⟩) (by assumption) ?rest38
      case hy38 => (intro w hSw; (try dsimp only at hSw); go_simp; (try with_reducible rfl))
      (try simp only [Act.put, List.getElem_toArray, List.getElem_cons_zero, List.getElem_cons_succ, List.setIfInBounds_toArray, List.set_cons_zero, List.set_cons_succ])
      refine wpAnyH_ready (rs := [2]) (by kernel_rfl) (by simp) ?_
      refine AllReadyH.cons (o := ({ dst := some 18, op := Go.Op.call { callee := Go.Callee.value (Go.Operand.func 71), args := #[Go.Operand.tmp 17], argTypes := #[84] }, type := 22, pos := "block.go:40", after := #[{ on := 1, ground := Go.Ground.data }], guard := none } : Go.Oper)) rfl (fun K hK => ?_) AllReadyH.nil
      go_simp
      (first | (go_at_call 72; refine (wbytes_any _ _ _ (x.key.drop k) _ (KD.ext (X0A.trans (by with_reducible (repeat (first | exact Ext.rfl_ _ | assumption | refine Ext.drew ?_ | refine Ext.drewN ?_ _ | refine Ext.alloc ?_ _ | refine Ext.trans ?_ (by assumption)))))) (by unfold B40; omega)).mono ?_; rintro e w2 ⟨v2, rfl, o2, hw2⟩; obtain ⟨A2, n2, c2, rfl, l2, r2, i2⟩ := o2.formN) | (go_at_call_of 71 (Value.int .u64 x.seq); refine (number_z x.seq _ (by omega) (by omega)).mono ?_; rintro e w3 ⟨v3, rfl, o3, hw3⟩; obtain ⟨A3, n3, c3, rfl, l3, r3, i3⟩ := o3.formN) | (go_at_call_of 71 (Value.int .u64 x.kind); refine (number_z x.kind _ (by omega) (by omega)).mono ?_; rintro e w4 ⟨v4, rfl, o4, hw4⟩; obtain ⟨A4, n4, c4, rfl, l4, r4, i4⟩ := o4.formN) | (go_at_call 70; refine (join_any _ 4 4 [numB ((k : Nat) : Int).toNat, bytB (x.key.drop k), numB x.seq.toNat, numB x.kind.toNat] _ (RdBB.new4 (r1.ext (by with_reducible (repeat (first | exact Ext.rfl_ _ | assumption | refine Ext.drew ?_ | refine Ext.drewN ?_ _ | refine Ext.alloc ?_ _ | refine Ext.trans ?_ (by assumption))))) (r2.ext (by with_reducible (repeat (first | exact Ext.rfl_ _ | assumption | refine Ext.drew ?_ | refine Ext.drewN ?_ _ | refine Ext.alloc ?_ _ | refine Ext.trans ?_ (by assumption))))) (r3.ext (by with_reducible (repeat (first | exact Ext.rfl_ _ | assumption | refine Ext.drew ?_ | refine Ext.drewN ?_ _ | refine Ext.alloc ?_ _ | refine Ext.trans ?_ (by assumption))))) (r4.ext (by with_reducible (repeat (first | exact Ext.rfl_ _ | assumption | refine Ext.drew ?_ | refine Ext.drewN ?_ _ | refine Ext.alloc ?_ _ | refine Ext.trans ?_ (by assumption)))))) (by decide) (by unfold B47; omega)).mono ?_; rintro e w5 ⟨v5, rfl, o5, hw5⟩; obtain ⟨A5, n5, c5, rfl, l5, r5, i5⟩ := o5.formN) | (go_at_call 71; refine (number_z (k : Int) _ (by omega) (by omega)).mono ?_; rintro e w1 ⟨v1, rfl, o1, hw1⟩; obtain ⟨A1, n1, c1, rfl, l1, r1, i1⟩ := o1.formN))
      (try (go_wp2_with fail))
      refine hK.out _ _ (by (try dsimp only); exact box4 HBX.out (by with_reducible (repeat (first | exact Ext.rfl_ _ | assumption | refine Ext.drew ?_ | refine Ext.drewN ?_ _ | refine Ext.alloc ?_ _ | refine Ext.trans ?_ (by assumption))))) (fun hHeld => ?_)
      clear hK K
      (try simp only [Act.put, List.getElem_toArray, List.getElem_cons_zero, List.getElem_cons_succ, List.setIfInBounds_toArray, List.set_cons_zero, List.set_cons_succ])
      refine wpAnyH_ready (rs := [7]) (by kernel_rfl) (by simp) ?_
      refine AllReadyH.cons (o := ({ dst := some 23, op := Go.Op.call { callee := Go.Callee.value (Go.Operand.func 72), args := #[Go.Operand.tmp 22], argTypes := #[22] }, type := 22, pos := "block.go:40", after := #[{ on := 6, ground := Go.Ground.data }, { on := 2, ground := Go.Ground.chain }], guard := none } : Go.Oper)) rfl (fun K hK => ?_) AllReadyH.nil
      go_simp
      (first | (go_at_call 72; refine (wbytes_any _ _ _ (x.key.drop k) _ (KD.ext (X0A.trans (by with_reducible (repeat (first | exact Ext.rfl_ _ | assumption | refine Ext.drew ?_ | refine Ext.drewN ?_ _ | refine Ext.alloc ?_ _ | refine Ext.trans ?_ (by assumption)))))) (by unfold B40; omega)).mono ?_; rintro e w2 ⟨v2, rfl, o2, hw2⟩; obtain ⟨A2, n2, c2, rfl, l2, r2, i2⟩ := o2.formN) | (go_at_call_of 71 (Value.int .u64 x.seq); refine (number_z x.seq _ (by omega) (by omega)).mono ?_; rintro e w3 ⟨v3, rfl, o3, hw3⟩; obtain ⟨A3, n3, c3, rfl, l3, r3, i3⟩ := o3.formN) | (go_at_call_of 71 (Value.int .u64 x.kind); refine (number_z x.kind _ (by omega) (by omega)).mono ?_; rintro e w4 ⟨v4, rfl, o4, hw4⟩; obtain ⟨A4, n4, c4, rfl, l4, r4, i4⟩ := o4.formN) | (go_at_call 70; refine (join_any _ 4 4 [numB ((k : Nat) : Int).toNat, bytB (x.key.drop k), numB x.seq.toNat, numB x.kind.toNat] _ (RdBB.new4 (r1.ext (by with_reducible (repeat (first | exact Ext.rfl_ _ | assumption | refine Ext.drew ?_ | refine Ext.drewN ?_ _ | refine Ext.alloc ?_ _ | refine Ext.trans ?_ (by assumption))))) (r2.ext (by with_reducible (repeat (first | exact Ext.rfl_ _ | assumption | refine Ext.drew ?_ | refine Ext.drewN ?_ _ | refine Ext.alloc ?_ _ | refine Ext.trans ?_ (by assumption))))) (r3.ext (by with_reducible (repeat (first | exact Ext.rfl_ _ | assumption | refine Ext.drew ?_ | refine Ext.drewN ?_ _ | refine Ext.alloc ?_ _ | refine Ext.trans ?_ (by assumption))))) (r4.ext (by with_reducible (repeat (first | exact Ext.rfl_ _ | assumption | refine Ext.drew ?_ | refine Ext.drewN ?_ _ | refine Ext.alloc ?_ _ | refine Ext.trans ?_ (by assumption)))))) (by decide) (by unfold B47; omega)).mono ?_; rintro e w5 ⟨v5, rfl, o5, hw5⟩; obtain ⟨A5, n5, c5, rfl, l5, r5, i5⟩ := o5.formN) | (go_at_call 71; refine (number_z (k : Int) _ (by omega) (by omega)).mono ?_; rintro e w1 ⟨v1, rfl, o1, hw1⟩; obtain ⟨A1, n1, c1, rfl, l1, r1, i1⟩ := o1.formN))
      (try (go_wp2_with fail))
      refine hK.out _ _ (by (try dsimp only); exact box4 HBX.out (by with_reducible (repeat (first | exact Ext.rfl_ _ | assumption | refine Ext.drew ?_ | refine Ext.drewN ?_ _ | refine Ext.alloc ?_ _ | refine Ext.trans ?_ (by assumption))))) (fun hHeld => ?_)
      clear hK K
      (try simp only [Act.put, List.getElem_toArray, List.getElem_cons_zero, List.getElem_cons_succ, List.setIfInBounds_toArray, List.set_cons_zero, List.set_cons_succ])
      refine wpAnyH_ready (rs := [11]) (by kernel_rfl) (by simp) ?_
      refine AllReadyH.cons (o := ({ dst := some 27, op := Go.Op.call { callee := Go.Callee.value (Go.Operand.func 71), args := #[Go.Operand.tmp 26], argTypes := #[84] }, type := 22, pos := "block.go:40", after := #[{ on := 10, ground := Go.Ground.data }, { on := 7, ground := Go.Ground.chain }], guard := none } : Go.Oper)) rfl (fun K hK => ?_) AllReadyH.nil
      go_simp
      (first | (go_at_call 72; refine (wbytes_any _ _ _ (x.key.drop k) _ (KD.ext (X0A.trans (by with_reducible (repeat (first | exact Ext.rfl_ _ | assumption | refine Ext.drew ?_ | refine Ext.drewN ?_ _ | refine Ext.alloc ?_ _ | refine Ext.trans ?_ (by assumption)))))) (by unfold B40; omega)).mono ?_; rintro e w2 ⟨v2, rfl, o2, hw2⟩; obtain ⟨A2, n2, c2, rfl, l2, r2, i2⟩ := o2.formN) | (go_at_call_of 71 (Value.int .u64 x.seq); refine (number_z x.seq _ (by omega) (by omega)).mono ?_; rintro e w3 ⟨v3, rfl, o3, hw3⟩; obtain ⟨A3, n3, c3, rfl, l3, r3, i3⟩ := o3.formN) | (go_at_call_of 71 (Value.int .u64 x.kind); refine (number_z x.kind _ (by omega) (by omega)).mono ?_; rintro e w4 ⟨v4, rfl, o4, hw4⟩; obtain ⟨A4, n4, c4, rfl, l4, r4, i4⟩ := o4.formN) | (go_at_call 70; refine (join_any _ 4 4 [numB ((k : Nat) : Int).toNat, bytB (x.key.drop k), numB x.seq.toNat, numB x.kind.toNat] _ (RdBB.new4 (r1.ext (by with_reducible (repeat (first | exact Ext.rfl_ _ | assumption | refine Ext.drew ?_ | refine Ext.drewN ?_ _ | refine Ext.alloc ?_ _ | refine Ext.trans ?_ (by assumption))))) (r2.ext (by with_reducible (repeat (first | exact Ext.rfl_ _ | assumption | refine Ext.drew ?_ | refine Ext.drewN ?_ _ | refine Ext.alloc ?_ _ | refine Ext.trans ?_ (by assumption))))) (r3.ext (by with_reducible (repeat (first | exact Ext.rfl_ _ | assumption | refine Ext.drew ?_ | refine Ext.drewN ?_ _ | refine Ext.alloc ?_ _ | refine Ext.trans ?_ (by assumption))))) (r4.ext (by with_reducible (repeat (first | exact Ext.rfl_ _ | assumption | refine Ext.drew ?_ | refine Ext.drewN ?_ _ | refine Ext.alloc ?_ _ | refine Ext.trans ?_ (by assumption)))))) (by decide) (by unfold B47; omega)).mono ?_; rintro e w5 ⟨v5, rfl, o5, hw5⟩; obtain ⟨A5, n5, c5, rfl, l5, r5, i5⟩ := o5.formN) | (go_at_call 71; refine (number_z (k : Int) _ (by omega) (by omega)).mono ?_; rintro e w1 ⟨v1, rfl, o1, hw1⟩; obtain ⟨A1, n1, c1, rfl, l1, r1, i1⟩ := o1.formN))
      (try (go_wp2_with fail))
      refine hK.out _ _ (by (try dsimp only); exact box4 HBX.out (by with_reducible (repeat (first | exact Ext.rfl_ _ | assumption | refine Ext.drew ?_ | refine Ext.drewN ?_ _ | refine Ext.alloc ?_ _ | refine Ext.trans ?_ (by assumption))))) (fun hHeld => ?_)
      clear hK K
      (try simp only [Act.put, List.getElem_toArray, List.getElem_cons_zero, List.getElem_cons_succ, List.setIfInBounds_toArray, List.set_cons_zero, List.set_cons_succ])
      refine wpAnyH_ready (rs := [15]) (by kernel_rfl) (by simp) ?_
      refine AllReadyH.cons (o := ({ dst := some 31, op := Go.Op.call { callee := Go.Callee.value (Go.Operand.func 71), args := #[Go.Operand.tmp 30], argTypes := #[84] }, type := 22, pos := "block.go:40", after := #[{ on := 14, ground := Go.Ground.data }, { on := 11, ground := Go.Ground.chain }], guard := none } : Go.Oper)) rfl (fun K hK => ?_) AllReadyH.nil
      go_simp
      (first | (go_at_call 72; refine (wbytes_any _ _ _ (x.key.drop k) _ (KD.ext (X0A.trans (by with_reducible (repeat (first | exact Ext.rfl_ _ | assumption | refine Ext.drew ?_ | refine Ext.drewN ?_ _ | refine Ext.alloc ?_ _ | refine Ext.trans ?_ (by assumption)))))) (by unfold B40; omega)).mono ?_; rintro e w2 ⟨v2, rfl, o2, hw2⟩; obtain ⟨A2, n2, c2, rfl, l2, r2, i2⟩ := o2.formN) | (go_at_call_of 71 (Value.int .u64 x.seq); refine (number_z x.seq _ (by omega) (by omega)).mono ?_; rintro e w3 ⟨v3, rfl, o3, hw3⟩; obtain ⟨A3, n3, c3, rfl, l3, r3, i3⟩ := o3.formN) | (go_at_call_of 71 (Value.int .u64 x.kind); refine (number_z x.kind _ (by omega) (by omega)).mono ?_; rintro e w4 ⟨v4, rfl, o4, hw4⟩; obtain ⟨A4, n4, c4, rfl, l4, r4, i4⟩ := o4.formN) | (go_at_call 70; refine (join_any _ 4 4 [numB ((k : Nat) : Int).toNat, bytB (x.key.drop k), numB x.seq.toNat, numB x.kind.toNat] _ (RdBB.new4 (r1.ext (by with_reducible (repeat (first | exact Ext.rfl_ _ | assumption | refine Ext.drew ?_ | refine Ext.drewN ?_ _ | refine Ext.alloc ?_ _ | refine Ext.trans ?_ (by assumption))))) (r2.ext (by with_reducible (repeat (first | exact Ext.rfl_ _ | assumption | refine Ext.drew ?_ | refine Ext.drewN ?_ _ | refine Ext.alloc ?_ _ | refine Ext.trans ?_ (by assumption))))) (r3.ext (by with_reducible (repeat (first | exact Ext.rfl_ _ | assumption | refine Ext.drew ?_ | refine Ext.drewN ?_ _ | refine Ext.alloc ?_ _ | refine Ext.trans ?_ (by assumption))))) (r4.ext (by with_reducible (repeat (first | exact Ext.rfl_ _ | assumption | refine Ext.drew ?_ | refine Ext.drewN ?_ _ | refine Ext.alloc ?_ _ | refine Ext.trans ?_ (by assumption)))))) (by decide) (by unfold B47; omega)).mono ?_; rintro e w5 ⟨v5, rfl, o5, hw5⟩; obtain ⟨A5, n5, c5, rfl, l5, r5, i5⟩ := o5.formN) | (go_at_call 71; refine (number_z (k : Int) _ (by omega) (by omega)).mono ?_; rintro e w1 ⟨v1, rfl, o1, hw1⟩; obtain ⟨A1, n1, c1, rfl, l1, r1, i1⟩ := o1.formN))
      (try (go_wp2_with fail))
      refine hK.out _ _ (by (try dsimp only); exact box4 HBX.out (by with_reducible (repeat (first | exact Ext.rfl_ _ | assumption | refine Ext.drew ?_ | refine Ext.drewN ?_ _ | refine Ext.alloc ?_ _ | refine Ext.trans ?_ (by assumption))))) (fun hHeld => ?_)
      clear hK K
      (try simp only [Act.put, List.getElem_toArray, List.getElem_cons_zero, List.getElem_cons_succ, List.setIfInBounds_toArray, List.set_cons_zero, List.set_cons_succ])
      refine wpAnyH_ready (rs := [16]) (by kernel_rfl) (by simp) ?_
      refine AllReadyH.cons (o := ({ dst := some 32, op := Go.Op.buildSlice 100 4 #[(0, Go.Operand.tmp 18), (1, Go.Operand.tmp 23), (2, Go.Operand.tmp 27), (3, Go.Operand.tmp 31)], type := 100, pos := "block.go:40", after := #[{ on := 2, ground := Go.Ground.data }, { on := 7, ground := Go.Ground.data }, { on := 11, ground := Go.Ground.data }, { on := 15, ground := Go.Ground.data }], guard := none } : Go.Oper)) rfl (fun K hK => ?_) AllReadyH.nil
      go_simp
      refine hK.out _ _ (by (try dsimp only); exact box4 HBX.out (by with_reducible (repeat (first | exact Ext.rfl_ _ | assumption | refine Ext.drew ?_ | refine Ext.drewN ?_ _ | refine Ext.alloc ?_ _ | refine Ext.trans ?_ (by assumption))))) (fun hHeld => ?_)
      clear hK K
      (try simp only [Act.put, List.getElem_toArray, List.getElem_cons_zero, List.getElem_cons_succ, List.setIfInBounds_toArray, List.set_cons_zero, List.set_cons_succ])
      refine wpAnyH_ready (rs := [17]) (by kernel_rfl) (by simp) ?_
      refine AllReadyH.cons (o := ({ dst := some 33, op := Go.Op.call { callee := Go.Callee.value (Go.Operand.func 70), args := #[Go.Operand.tmp 32], argTypes := #[100] }, type := 22, pos := "block.go:40", after := #[{ on := 16, ground := Go.Ground.data }, { on := 15, ground := Go.Ground.chain }], guard := none } : Go.Oper)) rfl (fun K hK => ?_) AllReadyH.nil
      go_simp
      (first | (go_at_call 72; refine (wbytes_any _ _ _ (x.key.drop k) _ (KD.ext (X0A.trans (by with_reducible (repeat (first | exact Ext.rfl_ _ | assumption | refine Ext.drew ?_ | refine Ext.drewN ?_ _ | refine Ext.alloc ?_ _ | refine Ext.trans ?_ (by assumption)))))) (by unfold B40; omega)).mono ?_; rintro e w2 ⟨v2, rfl, o2, hw2⟩; obtain ⟨A2, n2, c2, rfl, l2, r2, i2⟩ := o2.formN) | (go_at_call_of 71 (Value.int .u64 x.seq); refine (number_z x.seq _ (by omega) (by omega)).mono ?_; rintro e w3 ⟨v3, rfl, o3, hw3⟩; obtain ⟨A3, n3, c3, rfl, l3, r3, i3⟩ := o3.formN) | (go_at_call_of 71 (Value.int .u64 x.kind); refine (number_z x.kind _ (by omega) (by omega)).mono ?_; rintro e w4 ⟨v4, rfl, o4, hw4⟩; obtain ⟨A4, n4, c4, rfl, l4, r4, i4⟩ := o4.formN) | (go_at_call 70; refine (join_any _ 4 4 [numB ((k : Nat) : Int).toNat, bytB (x.key.drop k), numB x.seq.toNat, numB x.kind.toNat] _ (RdBB.new4 (r1.ext (by with_reducible (repeat (first | exact Ext.rfl_ _ | assumption | refine Ext.drew ?_ | refine Ext.drewN ?_ _ | refine Ext.alloc ?_ _ | refine Ext.trans ?_ (by assumption))))) (r2.ext (by with_reducible (repeat (first | exact Ext.rfl_ _ | assumption | refine Ext.drew ?_ | refine Ext.drewN ?_ _ | refine Ext.alloc ?_ _ | refine Ext.trans ?_ (by assumption))))) (r3.ext (by with_reducible (repeat (first | exact Ext.rfl_ _ | assumption | refine Ext.drew ?_ | refine Ext.drewN ?_ _ | refine Ext.alloc ?_ _ | refine Ext.trans ?_ (by assumption))))) (r4.ext (by with_reducible (repeat (first | exact Ext.rfl_ _ | assumption | refine Ext.drew ?_ | refine Ext.drewN ?_ _ | refine Ext.alloc ?_ _ | refine Ext.trans ?_ (by assumption)))))) (by decide) (by unfold B47; omega)).mono ?_; rintro e w5 ⟨v5, rfl, o5, hw5⟩; obtain ⟨A5, n5, c5, rfl, l5, r5, i5⟩ := o5.formN) | (go_at_call 71; refine (number_z (k : Int) _ (by omega) (by omega)).mono ?_; rintro e w1 ⟨v1, rfl, o1, hw1⟩; obtain ⟨A1, n1, c1, rfl, l1, r1, i1⟩ := o1.formN))
      (try (go_wp2_with fail))
      refine hK.out _ _ (by (try dsimp only); exact box4 HBX.out (by with_reducible (repeat (first | exact Ext.rfl_ _ | assumption | refine Ext.drew ?_ | refine Ext.drewN ?_ _ | refine Ext.alloc ?_ _ | refine Ext.trans ?_ (by assumption))))) (fun hHeld => ?_)
      clear hK K
      (try simp only [Act.put, List.getElem_toArray, List.getElem_cons_zero, List.getElem_cons_succ, List.setIfInBounds_toArray, List.set_cons_zero, List.set_cons_succ])
      refine wpAnyH_take (i := 18) (oi := ({ dst := some 7, op := Go.Op.assign (Go.Operand.tmp 33), type := 22, pos := "block.go:40", after := #[{ on := 17, ground := Go.Ground.data }, { on := 17, ground := Go.Ground.chain }, { on := 0, ground := Go.Ground.phase }, { on := 1, ground := Go.Ground.phase }, { on := 2, ground := Go.Ground.phase }, { on := 3, ground := Go.Ground.phase }, { on := 4, ground := Go.Ground.phase }, { on := 5, ground := Go.Ground.phase }, { on := 6, ground := Go.Ground.phase }, { on := 7, ground := Go.Ground.phase }, { on := 8, ground := Go.Ground.phase }, { on := 9, ground := Go.Ground.phase }, { on := 10, ground := Go.Ground.phase }, { on := 11, ground := Go.Ground.phase }, { on := 12, ground := Go.Ground.phase }, { on := 13, ground := Go.Ground.phase }, { on := 14, ground := Go.Ground.phase }, { on := 15, ground := Go.Ground.phase }, { on := 16, ground := Go.Ground.phase }, { on := 17, ground := Go.Ground.phase }], guard := none } : Go.Oper)) (v := ?v39) rfl (by kernel_rfl) (by kernel_rfl) (by kernel_rfl) (fun _ _ _ h => h) (Or.inl ⟨by rfl, ?hy39⟩) (by assumption) ?rest39
      case hy39 => (intro w hSw; (try dsimp only at hSw); go_simp; (try with_reducible rfl))
      (try simp only [Act.put, List.getElem_toArray, List.getElem_cons_zero, List.getElem_cons_succ, List.setIfInBounds_toArray, List.set_cons_zero, List.set_cons_succ])
      refine wpAnyH_done (by kernel_rfl) ?_ _
      all_goals
        have X5 := Lib.hid (show Ext wA w5 from (by with_reducible (repeat (first | exact Ext.rfl_ _ | assumption | refine Ext.drew ?_ | refine Ext.drewN ?_ _ | refine Ext.alloc ?_ _ | refine Ext.trans ?_ (by assumption)))))
        obtain ⟨g0, g1, g2, g3, f0, f1, f2, f3⟩ := box4 HBX.out X5.out
        have base5 : wA.heap.size ≤ (w4.alloc (.cells #[.slice A1 n1 c1, .slice A2 n2 c2, .slice A3 n3 c3, .slice A4 n4 c4] 22)).heap.size := Ext.size (w := wA) (w' := w4.alloc _) (by with_reducible (repeat (first | exact Ext.rfl_ _ | assumption | refine Ext.drew ?_ | refine Ext.drewN ?_ _ | refine Ext.alloc ?_ _ | refine Ext.trans ?_ (by assumption))))
        have R5 := Lib.hid r5
        have O5 := Lib.hid o5
        clear hw1 hw2 hw3 hw4 hw5 o1 o2 o3 o4 o5 r1 r2 r3 r4 r5
        rcases HK.out with hk | hk
        · have hkb : (x.kind == 1) = true := by simpa using hk
          have HK1 := Lib.hid hk
          clear hk
          go_wp2_with fail
          refine (wbytes_any A' n' c' x.val _ (KY.out.ext (X0A.trans (X5.out.trans (by with_reducible (repeat (first | exact Ext.rfl_ _ | assumption | refine Ext.drew ?_ | refine Ext.drewN ?_ _ | refine Ext.alloc ?_ _ | refine Ext.trans ?_ (by assumption))))))) (by unfold B40; omega)).mono ?_
          rintro e w6 ⟨v6, rfl, o6, hw6⟩
          obtain ⟨A6, n6, c6, rfl, l6, r6, i6⟩ := o6.formN
          go_wp2_with fail
          refine (join_any _ 2 2 [[numB ((k : Nat) : Int).toNat, bytB (x.key.drop k), numB x.seq.toNat, numB x.kind.toNat].flatten, bytB x.val] _ (RdBB.new2 (R5.out.ext (by with_reducible (repeat (first | exact Ext.rfl_ _ | assumption | refine Ext.drew ?_ | refine Ext.drewN ?_ _ | refine Ext.alloc ?_ _ | refine Ext.trans ?_ (by assumption))))) (r6.ext (by with_reducible (repeat (first | exact Ext.rfl_ _ | assumption | refine Ext.drew ?_ | refine Ext.drewN ?_ _ | refine Ext.alloc ?_ _ | refine Ext.trans ?_ (by assumption)))))) (by decide) (by rw [List.flatten_cons, List.length_append]; unfold B47; simp at hsum1 ⊢; omega)).mono ?_
          rintro e w7 ⟨v7, rfl, o7, hw7⟩
          have X7 : Ext wA w7 := X5.out.trans (by with_reducible (repeat (first | exact Ext.rfl_ _ | assumption | refine Ext.drew ?_ | refine Ext.drewN ?_ _ | refine Ext.alloc ?_ _ | refine Ext.trans ?_ (by assumption))))
          have base7 : w5.heap.size ≤ w6.heap.size := Ext.size (w := w5) (w' := w6) (by with_reducible (repeat (first | exact Ext.rfl_ _ | assumption | refine Ext.drew ?_ | refine Ext.drewN ?_ _ | refine Ext.alloc ?_ _ | refine Ext.trans ?_ (by assumption))))
          have base8 : wA.heap.size ≤ w5.heap.size := Ext.size X5.out
          go_wp2
          go_ret
          refine ⟨v7, rfl, ?_, ⟨_, _, c, X7.blk HGA.out, KX.out, hnc, by omega⟩, CA.out.ext X7⟩
          have e7 : OwnB w7 w.heap.size v7 [[numB ((k : Nat) : Int).toNat, bytB (x.key.drop k), numB x.seq.toNat, numB x.kind.toNat].flatten, bytB x.val].flatten := o7.mono (by rw [World.size_alloc]; omega)
          rw [blkE_put (k := k) (by first | rfl | (rw [KS.out]; rfl)) HK1.out]
          exact e7
        · have hkb : (x.kind == 1) = false := by simp; omega
          have HK1 := Lib.hid hk
          clear hk
          go_wp2
          go_ret
          refine ⟨_, rfl, ?_, ⟨_, _, c, X5.out.blk HGA.out, KX.out, hnc, by omega⟩, CA.out.ext X5.out⟩
          have e7 : OwnB w5 w.heap.size _ [numB ((k : Nat) : Int).toNat, bytB (x.key.drop k), numB x.seq.toNat, numB x.kind.toNat].flatten := O5.out.mono (by omega)
          rw [blkE_del (k := k) (by first | rfl | (rw [KS.out]; rfl)) (by rw [HK1.out]; decide)]
          exact e7

set_option maxRecDepth 100000 in
theorem writer_any (w : World) : Calls Try.prog 46 #[] w fun e w' => ∃ g, e = .returned (.func (.func 69) #[] #[.pointer (some ⟨g, 0, none⟩)]) ∧ w.heap.size ≤ g ∧ WBox w w' g [] ∧ Ext w w' := by
  go_enter Try.func46, Try.ntmps46
  go_wp2
  go_ret
  exact ⟨_, rfl, Nat.le_refl _, ⟨none, 0, 0, blk1 _ _, Rd.nil _ _, Nat.le_refl _, Nat.zero_le _⟩, (by with_reducible (repeat (first | exact Ext.rfl_ _ | assumption | refine Ext.drew ?_ | refine Ext.drewN ?_ _ | refine Ext.alloc ?_ _ | refine Ext.trans ?_ (by assumption))))⟩


open Go.RowKit

theorem run_append_blk {P : Program} (w : World) (base : Nat) (t ty e : TypeId) (i : TypeInfo) (z : Value) (size bytes : Nat) (ht : P.underlying t = some (.slice e)) (hi : P.info? e = some i) (hz : i.zero = some z)
    (hsize : i.size = size) (hby : i.bytes = bytes) (hzs : z.cells.size = size) (hsz : 0 < size)
    (v : Value) (n : Nat) (xs : List Value) (hown : w.ownsRow base e size v n xs)
    (a : Addr) (m c : Nat) (news : List Value) (hl : news.length = m * size) (hnews : ∀ j u, news[j]? = some u → w.cell? (a.add j) = some u) (h1 : ∀ u ∈ news, u.oneCell' = true)
    (h63 : n + m ≤ maxLen) (hbytes : (n + m) * bytes ≤ 140737488355328) {v' : Value} {w' : World} (hr : (Builtin.append_ #[t, t] ty #[v, .slice (some a) m c]).run P w = .ok v' w') :
    ∀ k, v'.ownBlock = some k → v.ownBlock = some k ∨ w.heap.size ≤ k := by
  rcases hown.2 with ⟨rfl, rfl⟩ | ⟨g, cap, cur, rfl, hbg, hg, hnc, hcm, hcs, htake⟩
  · have hx : xs = [] := List.eq_nil_of_length_eq_zero (by simpa using hown.1)
    subst hx
    obtain ⟨v2, w2, h2, h3, _⟩ := run_append_own (P := P) w w.heap.size t ty e i z size bytes ht hi hz hsize hby hzs hsz (.slice none 0 0) 0 [] (World.ownsRow_nil _ _ _ _) a m c news hl hnews h1 h63 hbytes (Nat.le_refl _)
    rw [h2] at hr
    cases hr
    exact fun k hk => .inr (h3.lt k hk).1
  · subst hsize
    subst hby
    by_cases hroom : n + m ≤ cap
    · have hfit : n * i.size + news.length ≤ cur.size := by rw [hl, hcs, ← Nat.add_mul]; exact Nat.mul_le_mul_right _ hroom
      have h2 := run_append_room (P := P) w t ty e i ht hi g n cap cur hg a m c news hl hnews h1 hroom hfit
      rw [h2] at hr
      cases hr
      exact fun k hk => .inl (by simpa [Value.ownBlock] using hk)
    · have holds : ∀ j u, xs[j]? = some u → w.cell? ((⟨g, 0, none⟩ : Addr).add j) = some u := hown.cells (g := g) rfl
      have hsmall : n + m ≤ 9223372036854775807 := by simp only [maxLen] at h63; omega
      have h2 := run_append_grow (P := P) w t ty e i z ht hi hz ⟨g, 0, none⟩ n cap xs hown.1 holds a m c news hl hnews (by omega) (by omega) (growslice_fits (by omega) hbytes)
      rw [h2] at hr
      cases hr
      exact fun k hk => .inr (by simp [Value.ownBlock] at hk; omega)

/-- 'append(out, b...)' of bytes: the row stands where it stood, or anew. -/
theorem wp_appB {ops : Array Oper} {rest : List Oper} {o : Oper} {a : Act} {w : World} {Q : Exit → Act → World → Prop} (hgd : o.guard = none) (s x : Operand)
    (ho : o.op = .call { callee := .builtin .append, args := #[s, x], argTypes := #[22, 22] })
    (base : Nat) (v : Value) (y : Bs) (hs : a.eval s = v) (hown : OwnB w base v y) (A : Option Addr) (m c : Nat) (z : Bs) (hx : a.eval x = .slice A m c) (hr : Rd w A m z)
    (hsz : y.length + z.length ≤ B47) (hbase : base ≤ w.heap.size)
    (h : ∀ v' w', OwnB w' base v' (y ++ z) → w.grownBy w' v.ownBlock → (∀ k, v'.ownBlock = some k → v.ownBlock = some k ∨ w.heap.size ≤ k) → wpList Try.prog ops Q rest (a.put o.dst v') w') : wpList Try.prog ops Q (o :: rest) a w := by
  obtain ⟨i0, hi, hz0, hz1, hz2⟩ := info_parts Try.info5x
  have hzl := hr.1
  cases A with
  | none =>
    have h0 : m = 0 := by
      rcases Nat.eq_zero_or_pos m with h | h
      · exact h
      · obtain ⟨b, o, e, _⟩ := hr.2 h
        cases e
    subst h0
    obtain rfl := hr.nil_eq
    refine wpList_plain hgd fun K hK => ?_
    have hrun := run_app_nil (P := Try.prog) w base 22 o.type 5 i0 1 Try.underlying22 hi v _ _ hown.out c
    unfold Oper.wp
    simp [execOp, ho, resolve, invoke, builtin, hs, hx, hrun, Result.andThen]
    exact hK _ _ (h v w (by simpa using hown) (World.grownBy.refl w _) (fun k hk => .inl hk))
  | some ad =>
    have hnews : ∀ j u, (byV z)[j]? = some u → w.cell? (ad.add j) = some u := by
      intro j u hj
      have hjn : j < z.length := by
        have := (List.getElem?_eq_some_iff.1 hj).1
        simpa using this
      obtain ⟨b, o, e, hc⟩ := hr.2 (by omega)
      obtain rfl := Option.some.inj e
      have e2 : (⟨b, o, none⟩ : Addr).add j = ⟨b, o + j, none⟩ := by unfold Addr.add; split <;> simp_all
      rw [e2, hc j hjn]
      simpa [List.getElem?_eq_getElem hjn] using hj
    unfold B47 at hsz
    have hl : (byV z).length = m * 1 := by simp [byV]; omega
    have ho1 : ∀ u ∈ byV z, u.oneCell' = true := by intro u hu; obtain ⟨x, _, rfl⟩ := List.mem_map.1 hu; rfl
    have h63 : y.length + m ≤ maxLen := by unfold maxLen; omega
    obtain ⟨v', w', hrun, h1, h2, h3⟩ := run_append_own (P := Try.prog) w base 22 o.type 5 i0 (.int .u8 0) 1 1 Try.underlying22 hi hz0 hz1 hz2 rfl (by decide) v y.length (byV y) hown.out ad m c (byV z) hl hnews ho1 h63 (by omega) hbase
    have h4 := run_append_blk (P := Try.prog) w base 22 o.type 5 i0 (.int .u8 0) 1 1 Try.underlying22 hi hz0 hz1 hz2 rfl (by decide) v y.length (byV y) hown.out ad m c (byV z) hl hnews ho1 h63 (by omega) hrun
    refine wpList_plain hgd fun K hK => ?_
    unfold Oper.wp execOp
    simp only [ho, resolve, invoke, builtin, Sem.run_bind, Sem.run_pure, Result.andThen_ok, List.map_toArray, List.map_cons, List.map_nil, hs, hx, hrun]
    refine hK _ _ (h v' w' ?_ h2 h4)
    unfold OwnB
    rw [List.length_append, hzl]
    simpa [byV] using h1

theorem blkE_len {p : Bs} {r : Bool} {e : Ent} (hm : mayE e = true) : (blkE p r e).length ≤ 66000 := by
  have hM := mayE_iff.1 hm
  have h2 := hM.2.1
  have h5 := hM.2.2.2.2.1
  obtain ⟨k, hk⟩ : ∃ k, (if r = true then 0 else shr p e.key) = k := ⟨_, rfl⟩
  have j0 := numB_length k
  have j2 := numB_length e.seq.toNat
  have j3 := numB_length e.kind.toNat
  have j1 : (bytB (e.key.drop k)).length ≤ 42 := by unfold bytB; have := numB_length (e.key.drop k).length; simp at *; omega
  have j4 : (bytB e.val).length ≤ 65546 := by unfold bytB; have := numB_length e.val.length; simp; omega
  by_cases h : e.kind = 1
  · rw [blkE_put hk h]; simp at *; omega
  · rw [blkE_del hk h]; simp at *; omega
theorem bodF_len (i : Nat) (p : Bs) (xs : List Ent) (h : ∀ x ∈ xs, mayE x = true) : (bodF i p xs).length ≤ 66000 * xs.length := by
  induction xs generalizing i p with
  | nil => simp [bodF]
  | cons e xs ih =>
    rw [bodF, List.length_append, List.length_cons]
    have := blkE_len (p := p) (r := i % 4 == 0) (h e (by simp))
    have := ih (i + 1) e.key (fun x hx => h x (by simp [hx]))
    omega
theorem bodB_take {xs : List Ent} (k : Nat) (h : ∀ x ∈ xs, mayE x = true) (hl : xs.length ≤ 1024) : (bodB (xs.take k)).length ≤ 67584000 := by
  have := bodF_len 0 [] (xs.take k) (fun x hx => h x (List.mem_of_mem_take hx))
  unfold bodB
  rw [List.length_take] at this
  omega
theorem take_at {xs : List Ent} {k : Nat} (h : k < xs.length) : xs.take (k + 1) = xs.take k ++ [xs[k]] := List.take_succ_eq_append_getElem h
theorem bodB_at {xs : List Ent} {k : Nat} (h : k < xs.length) : bodB (xs.take (k + 1)) = bodB (xs.take k) ++ blkE (keyL [] (xs.take k)) (k % 4 == 0) xs[k] := by
  rw [take_at h, bodB_snoc, List.length_take, Nat.min_eq_left (by omega)]
theorem posB_at {xs : List Ent} {k : Nat} (h : k < xs.length) : posB (xs.take (k + 1)) = posB (xs.take k) ++ (if k % 4 = 0 then [(bodB (xs.take k)).length] else []) := by
  rw [take_at h, posB_snoc, List.length_take, Nat.min_eq_left (by omega)]
theorem keyL_at {xs : List Ent} {k : Nat} (h : k < xs.length) : keyL [] (xs.take (k + 1)) = xs[k].key := by rw [take_at h, keyL_snoc]

theorem OwnB.apart {w : World} {base g : Nat} {v : Value} {x : Bs} (h : OwnB w base v x) {cs : Array Value} {t : TypeId} {fr : Nat × Nat} (hg : w.heap[g]? = some (.cells cs t fr)) (ht : t ≠ 5) : v.ownBlock ≠ some g := by
  rcases h.out.2 with ⟨rfl, _⟩ | ⟨g', cap, cur, rfl, _, hg', _⟩
  · simp [Value.ownBlock]
  · intro e
    simp [Value.ownBlock] at e
    subst e
    rw [hg] at hg'
    injection hg' with e1
    injection e1 with _ e2
    exact ht e2
theorem OwnB.chgBox {w0 w w' : World} {base g : Nat} {v : Value} {x p : Bs} (h : OwnB w base v x) (hb : WBox w0 w g p) (hc : Chg g w w') : OwnB w' base v x := by
  obtain ⟨B, m, d, hg, _⟩ := hb
  exact h.chg hg (by decide) hc
/-- Two rows of bytes of the call's own do not lie in one block. -/
def Dj (a b : Value) : Prop := ∀ k, a.ownBlock = some k → b.ownBlock ≠ some k
theorem Dj.symm {a b : Value} (h : Dj a b) : Dj b a := fun k e1 e2 => h k e2 e1
theorem OwnB.grow {w w' : World} {base : Nat} {v u : Value} {x : Bs} (h : OwnB w base v x) (hd : Dj v u) (hg : w.grownBy w' u.ownBlock) : OwnB w' base v x := by
  refine World.ownsRow.kept h.out hg ?_
  rcases hb : v.ownBlock with _ | k
  · exact .inl rfl
  · exact .inr (fun e => hd k hb e.symm)
theorem WBox.grow {w0 w w' : World} {g base : Nat} {p x : Bs} {u : Value} (h : WBox w0 w g p) (ho : OwnB w base u x) (hg : w.grownBy w' u.ownBlock) : WBox w0 w' g p := by
  obtain ⟨B, m, d, hb, rest⟩ := h
  exact ⟨B, m, d, (hg.block g (Array.getElem?_eq_some_iff.1 hb).1 (fun e => ho.apart hb (by decide) e.symm)).trans hb, rest⟩
theorem WBox.ext {w0 w w' : World} {g : Nat} {p : Bs} (h : WBox w0 w g p) (e : Ext w w') : WBox w0 w' g p := by
  obtain ⟨B, m, d, hb, rest⟩ := h
  exact ⟨B, m, d, e.blk hb, rest⟩
theorem WBox.lt {w0 w : World} {g : Nat} {p : Bs} (h : WBox w0 w g p) : g < w.heap.size := by
  obtain ⟨B, m, d, hb, rest⟩ := h
  exact (Array.getElem?_eq_some_iff.1 hb).1

/-- What stands in a round of Write. -/
def WrI (w : World) (g : Nat) (xs : List Ent) (k : Nat) (vb va : Value) (wr : World) : Prop :=
  Ext w wr ∧ WBox w wr g (keyL [] (xs.take k)) ∧ OwnB wr w.heap.size vb (bodB (xs.take k)) ∧ OwnB wr w.heap.size va ((posB (xs.take k)).map w4).flatten ∧ Dj va vb
theorem Dj.new {w : World} {base : Nat} {a b b' : Value} {x : Bs} (h : Dj a b) (ha : OwnB w base a x) (hb : ∀ k, b'.ownBlock = some k → b.ownBlock = some k ∨ w.heap.size ≤ k) : Dj a b' := by
  intro k e1 e2
  have := (ha.out.lt k e1).2
  rcases hb k e2 with h1 | h1
  · exact h k e1 h1
  · omega
theorem Dj.new' {w : World} {base : Nat} {a a' b : Value} {x : Bs} (h : Dj a b) (hb : OwnB w base b x) (ha : ∀ k, a'.ownBlock = some k → a.ownBlock = some k ∨ w.heap.size ≤ k) : Dj a' b := by
  intro k e1 e2
  have := (hb.out.lt k e2).2
  rcases ha k e1 with h1 | h1
  · exact h k h1 e2
  · omega
/-- The end of a round: the entry has been written and hung on. -/
theorem WrI.next {w w5 w6 w7 : World} {g : Nat} {xs : List Ent} {k : Nat} {vb va v7 : Value} {p : Bs} (hx5 : Ext w w5) (hb : WBox w w5 g p) (ha : OwnB w5 w.heap.size va ((posB (xs.take (k + 1))).map w4).flatten) (ho : OwnB w5 w.heap.size vb (bodB (xs.take k))) (hd : Dj va vb) (hg0 : w.heap.size ≤ g) (hk : k < xs.length) (hc : Chg g w5 w6) (hb6 : WBox w w6 g xs[k].key)
    (o7 : OwnB w7 w.heap.size v7 (bodB (xs.take k) ++ blkE (keyL [] (xs.take k)) (k % 4 == 0) xs[k])) (g7 : w6.grownBy w7 vb.ownBlock) (j7 : ∀ k, v7.ownBlock = some k → vb.ownBlock = some k ∨ w6.heap.size ≤ k) : WrI w g xs (k + 1) v7 va w7 := by
  have o6 : OwnB w6 w.heap.size vb (bodB (xs.take k)) := ho.chgBox hb hc
  have a6 : OwnB w6 w.heap.size va _ := ha.chgBox hb hc
  refine ⟨(hx5.chg hc hg0).growBy g7 o6 (Nat.le_refl _), ?_, ?_, a6.grow hd g7, hd.new a6 j7⟩
  · rw [keyL_at hk]; exact hb6.grow o6 g7
  · rw [bodB_at hk]; exact o7

set_option maxRecDepth 100000 in
set_option maxHeartbeats 4000000 in
theorem write_any (A : Option Addr) (n c : Nat) (xs : List Ent) (w : World) (hl : RdL w A n xs) (hnc : n ≤ c) :
    Calls Try.prog 22 #[.slice A n c] w fun e w' => ∃ v', e = .returned (.tuple #[v', .int .i64 (if mayL xs then 0 else 2)]) ∧ OwnB w' w.heap.size v' (if mayL xs then blkB xs else []) ∧ Ext w w' := by
  have HL := Lib.hid hl
  have hxl := hl.1
  have hn41 := hl.2.1
  unfold B41 at hn41
  clear hl
  by_cases hmay : mayL xs = true
  · have hmm := hmay
    unfold mayL riseB at hmm
    simp at hmm
    obtain ⟨⟨hn1, hn2⟩, hris⟩ := hmm
    have hmE : ∀ x ∈ xs, mayE x = true := ris_mem (by unfold riseB; simpa using hris)
    have hr1 : (((ris none xs).length : Int) == (n : Int)) = true := by rw [hris, hxl]; simp
    rw [if_pos hmay, if_pos hmay]
    have HME := Lib.hid hmE
    have HR1 := Lib.hid hr1
    have n1 : ¬ n = 0 := by omega
    have n2 : n ≤ 1024 := by omega
    have n3 : (n : Int) ≤ 1024 := by omega
    have z1 : ((n : Int) == 0) = false := by rw [beq_eq_false_iff_ne]; omega
    have z2 : decide ((1024 : Int) < (n : Int)) = false := decide_eq_false (by omega)
    have z3 : ¬ (1024 : Int) < (n : Int) := by omega
    clear hmE hr1 hris hmay
    go_enter Try.func22, Try.ntmps22
    go_wp2_with fail
    refine (irising_any A n c xs _ HL.out hnc).mono ?_
    rintro e w1 ⟨rfl, hw1⟩
    rw [HR1.out]
    go_wp2_with fail
    refine (writer_any _).mono ?_
    rintro e w2 ⟨g, rfl, hgs, hbx, hw2⟩
    have hg0 : w.heap.size ≤ g := Nat.le_trans (Ext.size hw1) hgs
    have hW0 : WrI w g xs 0 (.slice none 0 0) (.slice none 0 0) w2 := by
      obtain ⟨B, m, d, hb1, hb2, hb3, hb4⟩ := hbx
      have hm : m = 0 := by simpa using hb2.1.symm
      subst hm
      exact ⟨hw1.trans hw2, ⟨B, 0, d, hb1, Rd.nil _ _, hb3, hb4⟩, OwnB.nil _ _, OwnB.nil _ _, fun k hk => by simp [Value.ownBlock] at hk⟩
    clear hbx hgs hw1 hw2
    go_wp2
    go_loopw [4, 5, 26] (fun vb va i wr => ∃ k : Nat, k ≤ n ∧ i = .int .i64 k ∧ WrI w g xs k vb va wr) (fun _ _ i _ => n - (intOf i).toNat)
    case atStart => exact ⟨0, Nat.zero_le _, rfl, hW0⟩
    case round =>
      obtain ⟨k, hk, rfl, hX, hWG, hB, hA, hDJ⟩ := hrel
      by_cases hlt : k < n
      · have hltI : (k : Int) < (n : Int) := by omega
        have hncI : (n : Int) ≤ (c : Int) := by omega
        have hjc2 : k < c := by omega
        obtain ⟨b, o, rfl, _⟩ := HL.out.2.2 (by omega)
        obtain ⟨A1, n1', c1, A2, n2', c2, hx, e0, e1, e2, e3, hry⟩ := r6at HL.out hlt hX
        have hbl := bodB_take k HME.out (by omega)
        have HRY := Lib.hid hry
        have HWG := Lib.hid hWG
        have HA := Lib.hid hA
        have HDJ := Lib.hid hDJ
        have HX := Lib.hid hX
        have HB := Lib.hid hB
        have hmx : mayE xs[k] = true := HME.out _ (List.getElem_mem hx)
        have HMX := Lib.hid hmx
        have hel := blkE_len (p := keyL [] (xs.take k)) (r := k % 4 == 0) hmx
        clear hX hWG hB hA hDJ hry hmx
        obtain ⟨Ab, cb, rfl, hcb, hrb, hib⟩ := HB.out.form
        have HRB := Lib.hid hrb
        clear hrb hib
        by_cases hr4 : k % 4 = 0
        · have hr4b : (k % 4 == 0) = true := by simpa using hr4
          have hr4i : (((k : Int) % 4) == 0) = true := by simp; omega
          go_wp2_with fail
          refine (word_any (bodB (xs.take k)).length _ (by unfold B40; omega)).mono ?_
          rintro e w3 ⟨v3, rfl, o3, hw3⟩
          obtain ⟨A3, n3', c3, rfl, l3, r3, i3⟩ := o3.formN
          have X3 := Lib.hid (show Ext wr w3 from (by with_reducible (repeat (first | exact Ext.rfl_ _ | assumption | refine Ext.drew ?_ | refine Ext.drewN ?_ _ | refine Ext.alloc ?_ _ | refine Ext.trans ?_ (by assumption)))))
          have hbx : w3.heap[wr.heap.size]? = some (.cells #[.slice A1 n1' c1, .int .i64 xs[k].seq, .int .i64 xs[k].kind, .slice A2 n2' c2] 28 (0, 0)) := hw3.blk (blk1 _ _)
          have HBX3 := Lib.hid hbx
          have R3 := Lib.hid r3
          have hpl := posB_len (xs.take k)
          have hfl := flat4_len (posB (xs.take k))
          have htl : (xs.take k).length ≤ 1024 := by rw [List.length_take]; omega
          clear o3 hw3 r3 hbx
          go_wp2_with (first | (at_builtin; refine wp_appB rfl _ _ rfl w.heap.size u5 ((posB (xs.take k)).map w4).flatten rfl (HA.out.ext X3.out) A3 n3' c3 (w4 (bodB (xs.take k)).length) rfl R3.out (by rw [w4_len]; unfold B47; omega) (Ext.size (HX.out.trans X3.out)) ?_; intro v4 wq o4 g4 j4; obtain ⟨s0, s1, s2, s3, z0, z1, z2, z3⟩ := box4 ((g4.block _ (Array.getElem?_eq_some_iff.1 HBX3.out).1 (fun e => (by have := (HA.out.out.lt _ e.symm).2; omega))).trans HBX3.out) (Ext.rfl_ _)))
          have HX1 := Lib.hid ((HX.out.trans X3.out).growBy g4 (HA.out.ext X3.out) (Nat.le_refl _))
          have HWG1 := Lib.hid ((HWG.out.ext X3.out).grow (HA.out.ext X3.out) g4)
          have HB1 := Lib.hid ((HB.out.ext X3.out).grow HDJ.out.symm g4)
          have HA1 := Lib.hid (show OwnB wq w.heap.size v4 ((posB (xs.take (k + 1))).map w4).flatten by rw [posB_at hx, if_pos hr4]; simpa using o4)
          have HDJ1 := Lib.hid (HDJ.out.new' (HB.out.ext X3.out) j4)
          clear HX HWG HB HA HDJ o4 g4 j4 HBX3 X3 R3 s0 s1 s2 s3 z0 z1 z2 z3
          have HX := HX1
          have HWG := HWG1
          have HB := HB1
          have HA := HA1
          have HDJ := HDJ1
          clear HX1 HWG1 HB1 HA1 HDJ1

          refine (writer1_any _ xs[k] true g (keyL [] (xs.take k)) w wq HX.out hg0 HWG.out HRY.out HMX.out).mono ?_
          rintro e w6 ⟨v6, rfl, o6, hw6, hc6⟩
          obtain ⟨A6, n6, c6, rfl, l6, r6, i6⟩ := o6.formN
          have r6' : Rd w6 A6 n6 (blkE (keyL [] (xs.take k)) (k % 4 == 0) xs[k]) := by rw [hr4b]; exact r6
          have HR6 := Lib.hid r6'
          have HW6 := Lib.hid hw6
          have HC6 := Lib.hid hc6
          clear o6 r6 r6' hw6 hc6
          go_wp2_with (first | (at_builtin; refine wp_appB rfl _ _ rfl w.heap.size _ (bodB (xs.take k)) rfl (OwnB.chgBox HB.out HWG.out HC6.out) A6 n6 c6 (blkE (keyL [] (xs.take k)) (k % 4 == 0) xs[k]) rfl HR6.out (by unfold B47; omega) (Ext.size (HX.out.chg HC6.out hg0)) ?_; intro v7 w7 o7 g7 j7))
          go_roundw
          case rel =>
            refine ⟨k + 1, by omega, by go_num, ?_⟩
            exact WrI.next HX.out HWG.out HA.out HB.out HDJ.out hg0 hx HC6.out HW6.out o7 g7 j7
          case measure => simp [intOf]; omega
        · have hr4b : (k % 4 == 0) = false := by simpa using hr4
          have hr4i : (((k : Int) % 4) == 0) = false := by rw [beq_eq_false_iff_ne]; omega
          obtain ⟨wq, hwq⟩ : ∃ wq, wq = wr.alloc (.cells #[.slice A1 n1' c1, .int .i64 xs[k].seq, .int .i64 xs[k].kind, .slice A2 n2' c2] 28) := ⟨_, rfl⟩
          have XQ : Ext wr wq := by rw [hwq]; exact (by with_reducible (repeat (first | exact Ext.rfl_ _ | assumption | refine Ext.drew ?_ | refine Ext.drewN ?_ _ | refine Ext.alloc ?_ _ | refine Ext.trans ?_ (by assumption))))
          have HBX := Lib.hid (show wq.heap[wr.heap.size]? = some (.cells #[.slice A1 n1' c1, .int .i64 xs[k].seq, .int .i64 xs[k].kind, .slice A2 n2' c2] 28 (0, 0)) by rw [hwq]; exact blk1 _ _)
          obtain ⟨s0, s1, s2, s3, z0, z1, z2, z3⟩ := box4 HBX.out (Ext.rfl_ _)
          rw [hwq] at s0 s1 s2 s3 z0 z1 z2 z3
          go_wp2_with fail
          rw [← hwq]
          have HX1 := Lib.hid (HX.out.trans XQ)
          have HWG1 := Lib.hid (HWG.out.ext XQ)
          have HB1 := Lib.hid (HB.out.ext XQ)
          have HA1 := Lib.hid (show OwnB wq w.heap.size u5 ((posB (xs.take (k + 1))).map w4).flatten by rw [posB_at hx, if_neg hr4, List.append_nil]; exact HA.out.ext XQ)
          clear HX HWG HB HA s0 s1 s2 s3 z0 z1 z2 z3 hwq XQ
          have HX := HX1
          have HWG := HWG1
          have HB := HB1
          have HA := HA1
          clear HX1 HWG1 HB1 HA1

          refine (writer1_any _ xs[k] false g (keyL [] (xs.take k)) w wq HX.out hg0 HWG.out HRY.out HMX.out).mono ?_
          rintro e w6 ⟨v6, rfl, o6, hw6, hc6⟩
          obtain ⟨A6, n6, c6, rfl, l6, r6, i6⟩ := o6.formN
          have r6' : Rd w6 A6 n6 (blkE (keyL [] (xs.take k)) (k % 4 == 0) xs[k]) := by rw [hr4b]; exact r6
          have HR6 := Lib.hid r6'
          have HW6 := Lib.hid hw6
          have HC6 := Lib.hid hc6
          clear o6 r6 r6' hw6 hc6
          go_wp2_with (first | (at_builtin; refine wp_appB rfl _ _ rfl w.heap.size _ (bodB (xs.take k)) rfl (OwnB.chgBox HB.out HWG.out HC6.out) A6 n6 c6 (blkE (keyL [] (xs.take k)) (k % 4 == 0) xs[k]) rfl HR6.out (by unfold B47; omega) (Ext.size (HX.out.chg HC6.out hg0)) ?_; intro v7 w7 o7 g7 j7))
          go_roundw
          case rel =>
            refine ⟨k + 1, by omega, by go_num, ?_⟩
            exact WrI.next HX.out HWG.out HA.out HB.out HDJ.out hg0 hx HC6.out HW6.out o7 g7 j7
          case measure => simp [intOf]; omega
      · obtain rfl : k = n := by omega
        have htk : xs.take k = xs := List.take_of_length_le (by omega)
        rw [htk] at hB hA hWG
        have hpl := posB_len xs
        have hfl := flat4_len (posB xs)
        have hbl := bodB_take k HME.out (by omega)
        rw [htk] at hbl
        obtain ⟨Ab, cb, rfl, hcb, hrb, hib⟩ := hB.form
        obtain ⟨Aa, ca, rfl, hca, hra, hia⟩ := hA.form
        obtain ⟨Na, hNa⟩ : ∃ Na, Na = (((posB xs).map w4).flatten).length := ⟨_, rfl⟩
        rw [← hNa] at hca hra
        have hna : Na = 4 * (posB xs).length := by rw [hNa]; exact hfl
        rw [← hNa]
        have HRB := Lib.hid hrb
        have HRA := Lib.hid hra
        have HX := Lib.hid hX
        have HNA := Lib.hid hna
        have HPL := Lib.hid hpl
        have HFL := Lib.hid hfl
        have hna4 : Na ≤ 4096 := by omega
        clear hna hNa hpl hfl
        clear hrb hra hX hB hA hWG hDJ hia hib
        go_wp2_with fail
        rw [show (Na : Int) / 4 = ((posB xs).length : Nat) by have := HNA.out; omega]
        refine (word_any (posB xs).length _ (by have := HNA.out; unfold B40; omega)).mono ?_
        rintro e w3 ⟨v3, rfl, o3, hw3⟩
        obtain ⟨A3, n3', c3, rfl, l3, r3, i3⟩ := o3.formN
        have hsum : ([bodB xs, ((posB xs).map w4).flatten, w4 (posB xs).length].flatten).length ≤ B47 := by simp only [List.flatten_cons, List.flatten_nil, List.append_nil, List.length_append, HFL.out, w4_len]; have := HNA.out; unfold B47; omega
        go_wp2_with fail
        refine (concat_any _ 3 3 [bodB xs, ((posB xs).map w4).flatten, w4 (posB xs).length] _ (RdBB.new3 (HRB.out.ext (by with_reducible (repeat (first | exact Ext.rfl_ _ | assumption | refine Ext.drew ?_ | refine Ext.drewN ?_ _ | refine Ext.alloc ?_ _ | refine Ext.trans ?_ (by assumption))))) (HRA.out.ext (by with_reducible (repeat (first | exact Ext.rfl_ _ | assumption | refine Ext.drew ?_ | refine Ext.drewN ?_ _ | refine Ext.alloc ?_ _ | refine Ext.trans ?_ (by assumption))))) (r3.ext (by with_reducible (repeat (first | exact Ext.rfl_ _ | assumption | refine Ext.drew ?_ | refine Ext.drewN ?_ _ | refine Ext.alloc ?_ _ | refine Ext.trans ?_ (by assumption)))))) (by decide) hsum).mono ?_
        rintro e w5 ⟨v5, rfl, o5, hw5⟩
        have X5 : Ext w w5 := HX.out.trans (by with_reducible (repeat (first | exact Ext.rfl_ _ | assumption | refine Ext.drew ?_ | refine Ext.drewN ?_ _ | refine Ext.alloc ?_ _ | refine Ext.trans ?_ (by assumption))))
        have X3 : Ext w w3 := HX.out.trans (by with_reducible (repeat (first | exact Ext.rfl_ _ | assumption | refine Ext.drew ?_ | refine Ext.drewN ?_ _ | refine Ext.alloc ?_ _ | refine Ext.trans ?_ (by assumption))))
        go_wp2
        go_ret2
        refine ⟨v5, rfl, ?_, X5⟩
        have hbb : blkB xs = [bodB xs, ((posB xs).map w4).flatten, w4 (posB xs).length].flatten := by unfold blkB; simp
        rw [hbb]
        exact o5.mono (by have := Ext.size X3; rw [World.size_alloc]; omega)
  · have hmay' : mayL xs = false := by simpa using hmay
    rw [if_neg hmay, if_neg hmay]
    by_cases h0 : n = 0
    · subst h0
      go_enter Try.func22, Try.ntmps22
      go_wp2
      go_ret2
      exact ⟨_, rfl, OwnB.nil _ _, Ext.rfl_ _⟩
    · have z1 : ((n : Int) == 0) = false := by rw [beq_eq_false_iff_ne]; omega
      by_cases h1 : 1024 < n
      · have z2 : decide ((1024 : Int) < (n : Int)) = true := decide_eq_true (by omega)
        have z3 : (1024 : Int) < (n : Int) := by omega
        go_enter Try.func22, Try.ntmps22
        go_wp2
        go_ret2
        exact ⟨_, rfl, OwnB.nil _ _, Ext.rfl_ _⟩
      · have z2 : decide ((1024 : Int) < (n : Int)) = false := decide_eq_false (by omega)
        have z3 : ¬ (1024 : Int) < (n : Int) := by omega
        have hr1 : (((ris none xs).length : Int) == (n : Int)) = false := by
          rw [beq_eq_false_iff_ne]
          intro e
          have : mayL xs = true := by
            unfold mayL riseB
            simp
            omega
          exact hmay this
        have HR1 := Lib.hid hr1
        clear hr1
        go_enter Try.func22, Try.ntmps22
        go_wp2_with fail
        refine (irising_any A n c xs _ HL.out hnc).mono ?_
        rintro e w1 ⟨rfl, hw1⟩
        rw [HR1.out]
        go_wp2
        go_ret2
        exact ⟨_, rfl, OwnB.nil _ _, (by with_reducible (repeat (first | exact Ext.rfl_ _ | assumption | refine Ext.drew ?_ | refine Ext.drewN ?_ _ | refine Ext.alloc ?_ _ | refine Ext.trans ?_ (by assumption))))⟩

theorem size_blk (A : Option Addr) (n c : Nat) (xs : List Ent) (w : World) (hl : RdL w A n xs) (hnc : n ≤ c) :
    Calls Try.prog 27 #[.slice A n c] w fun e w' => e = .returned (.int .i64 (if mayL xs then blkB xs else []).length) ∧ Ext w w' := by
  have HL := Lib.hid hl
  clear hl
  go_enter Try.func27, Try.ntmps27
  go_wp2_with fail
  refine (write_any A n c xs _ HL.out hnc).mono ?_
  rintro e w1 ⟨v1, rfl, o1, hw1⟩
  obtain ⟨A1, c1, rfl, l1, r1, i1⟩ := o1.form
  go_wp2
  all_goals
    go_ret
    exact ⟨rfl, hw1⟩

end Go.Proofs.Ythfhococglbpoaa
