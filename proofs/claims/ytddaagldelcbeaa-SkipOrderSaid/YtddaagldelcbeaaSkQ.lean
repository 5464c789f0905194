/- (*skip.List).Put: a new entry. Conditions: the list is one; the entry reads. -/
import Derived.Test.YtddaagldelcbeaaSkP
namespace Go.Proofs.Ytddaagldelcbeaa
set_option linter.unusedSimpArgs false
set_option linter.unusedVariables false
open Go.RowKit Go.Shelf

set_option maxRecDepth 100000 in
set_option maxHeartbeats 8000000 in
theorem skput_end (g h : Nat) (A0 : List Nd) (v : Value) (x : Ent) (w : World) (s : SkL w g h (A0 ++ [])) (hx : RdE w v x) (hm : mayE x = true) (ha : ∀ a ∈ A0, cmpE a.x x < 0) (hB : ∀ b ∈ ([] : List Nd), cmpE x b.x < 0) (hlen : (A0 ++ []).length ≤ 1000000) :
    Calls Try.prog 32 #[.pointer (some ⟨g, 0, none⟩), v] w fun e w' => e = .returned (.int .i64 0) ∧ ∃ new : Nd, new.x = x ∧ w.heap.size ≤ new.b ∧ SkL w' g h (A0 ++ new :: []) ∧
      Kept (fun k => ¬ skT g h (A0 ++ []) k) w w' ∧ Hi w.heap.size new.h.A new.h.n ∧ Hi w.heap.size new.h.B new.h.m := by
  have HX := Lib.hid hx
  have HS := Lib.hid s
  have HM := Lib.hid hm
  have HA := Lib.hid ha
  have HB := Lib.hid hB
  have HLEN := Lib.hid hlen
  obtain ⟨A, n, c, B, m, d, rfl, hxk, _, _, hn47, _, _⟩ := hx
  have HXK := Lib.hid hxk
  have HN47 := Lib.hid hn47
  have hbx := blk1 w (.cells #[.slice A n c, .int .i64 x.seq, .int .i64 x.kind, .slice B m d] 40)
  obtain ⟨q0, q1, q2, q3, _, _, _, _⟩ := box4 hbx (Ext.rfl_ _)
  have HBX := Lib.hid hbx
  clear s hm ha hbx hB hlen hxk hn47
  go_enter Try.func32, Try.ntmps32
  go_wp2_with fail
  refine (there_any g h _ _ (HS.out.ext (by with_reducible (repeat (first | exact Ext.rfl_ _ | assumption | refine Ext.drew ?_ | refine Ext.drewN ?_ _ | refine Ext.alloc ?_ _ | refine Ext.trans ?_ (by assumption)))))).mono ?_
  rintro e w1 ⟨rfl, rfl⟩
  go_wp2_with fail
  refine (may_any _ x _ (HX.out.ext (by with_reducible (repeat (first | exact Ext.rfl_ _ | assumption | refine Ext.drew ?_ | refine Ext.drewN ?_ _ | refine Ext.alloc ?_ _ | refine Ext.trans ?_ (by assumption)))))).mono ?_
  rintro e w2 ⟨rfl, hw2⟩
  rw [HM.out]
  have X2 := Lib.hid (show Ext w w2 from (by with_reducible (repeat (first | exact Ext.rfl_ _ | assumption | refine Ext.drew ?_ | refine Ext.drewN ?_ _ | refine Ext.alloc ?_ _ | refine Ext.trans ?_ (by assumption)))))
  have HBX2 := Lib.hid (hw2.blk HBX.out)
  clear hw2 q0 q1 q2 q3
  go_wp2_with fail
  refine (search_any 56 #[.pointer (some ⟨w.heap.size, 0, none⟩)] (fun y => decide (cmpE y x < 0)) g h _ A0 ([]) _ (HS.out.ext X2.out) rfl (enters_of Try.func56 (by kernel_rfl) rfl) ?_ ?_ ?_).mono ?_
  · intro W nd' hW hmem
    exact put1_any _ _ _ _ _ _ _ _ x nd'.x W (hW.blk HBX2.out) (HX.out.ext (X2.out.trans hW)) ((HS.out.ext (X2.out.trans hW)).sk.rd nd' hmem)
  · intro a ha; exact decide_eq_true (HA.out a ha)
  · intro b hb; exact decide_eq_false (by have := HB.out b hb; have := cmpE_anti x b.x; omega)
  rintro e w3 ⟨rfl, hw3⟩
  have X3 := Lib.hid (X2.out.trans hw3)
  have HBX3 := Lib.hid (hw3.blk HBX2.out)
  clear hw3
  rw [show nx 0 ([] : List Nd) = .pointer none from rfl]
  go_wp2
  refine wp_region_held_drew (S := (fun w' => w'.cell? ⟨w.heap.size, 0, none⟩ = some (.slice A n c) ∧ w'.cell? ⟨w.heap.size, 1, none⟩ = some (.int .i64 x.seq) ∧ w'.cell? ⟨w.heap.size, 2, none⟩ = some (.int .i64 x.kind) ∧ w'.cell? ⟨w.heap.size, 3, none⟩ = some (.slice B m d) ∧ w'.frozen? ⟨w.heap.size, 0, none⟩ = false ∧ w'.frozen? ⟨w.heap.size, 1, none⟩ = false ∧ w'.frozen? ⟨w.heap.size, 2, none⟩ = false ∧ w'.frozen? ⟨w.heap.size, 3, none⟩ = false)) (by kernel_rfl) (by (try dsimp only); exact box4 HBX3.out (by with_reducible (repeat (first | exact Ext.rfl_ _ | assumption | refine Ext.drew ?_ | refine Ext.drewN ?_ _ | refine Ext.alloc ?_ _ | refine Ext.trans ?_ (by assumption))))) (fun hHeld => ?_)
  refine wpAnyH_take (i := 0) (oi := ({ dst := some 23, op := Go.Op.move (Go.Operand.tmp 6), type := 63, pos := "skip.go:71", after := #[], guard := none } : Go.Oper)) (v := ?v1) rfl (by kernel_rfl) (by kernel_rfl) (by kernel_rfl) (fun _ _ _ h => h) (Or.inl ⟨by rfl, ?hy1⟩) (by assumption) ?rest1
  case hy1 => (intro w hSw; (try dsimp only at hSw); go_simp; (try with_reducible rfl))
  (try simp only [Act.put, List.getElem_toArray, List.getElem_cons_zero, List.getElem_cons_succ, List.setIfInBounds_toArray, List.set_cons_zero, List.set_cons_succ])
  refine wpAnyH_take (i := 1) (oi := ({ dst := some 24, op := Go.Op.binOp Go.BinOp.neq 63 (Go.Operand.tmp 23) (Go.Operand.const (Go.Value.pointer none)) 63, type := 4, pos := "skip.go:71", after := #[{ on := 0, ground := Go.Ground.data }], guard := none } : Go.Oper)) (v := ?v2) rfl (by kernel_rfl) (by kernel_rfl) (by kernel_rfl) (fun _ _ _ h => h) (Or.inl ⟨by rfl, ?hy2⟩) (by assumption) ?rest2
  case hy2 => (intro w hSw; (try dsimp only at hSw); go_simp; (try with_reducible rfl))
  (try simp only [Act.put, List.getElem_toArray, List.getElem_cons_zero, List.getElem_cons_succ, List.setIfInBounds_toArray, List.set_cons_zero, List.set_cons_succ])
  refine wpAnyH_take (i := 2) (oi := ({ dst := some 25, op := Go.Op.move (Go.Operand.tmp 24), type := 4, pos := "skip.go:71", after := #[{ on := 1, ground := Go.Ground.data }], guard := none } : Go.Oper)) (v := ?v3) rfl (by kernel_rfl) (by kernel_rfl) (by kernel_rfl) (fun _ _ _ h => h) (Or.inl ⟨by rfl, ?hy3⟩) (by assumption) ?rest3
  case hy3 => (intro w hSw; (try dsimp only at hSw); go_simp; (try with_reducible rfl))
  (try simp only [Act.put, List.getElem_toArray, List.getElem_cons_zero, List.getElem_cons_succ, List.setIfInBounds_toArray, List.set_cons_zero, List.set_cons_succ])
  refine wpAnyH_take (i := 3) (oi := ({ dst := some 26, op := Go.Op.move (Go.Operand.tmp 6), type := 63, pos := "skip.go:71", after := #[{ on := 2, ground := Go.Ground.guard }], guard := some (2, true) } : Go.Oper)) (v := undef) rfl (by kernel_rfl) (by kernel_rfl) (by kernel_rfl) (fun _ _ _ h => h) (Or.inr ⟨by rfl, rfl⟩) (by assumption) ?_
  (try simp only [Act.put, List.getElem_toArray, List.getElem_cons_zero, List.getElem_cons_succ, List.setIfInBounds_toArray, List.set_cons_zero, List.set_cons_succ])
  refine wpAnyH_take (i := 4) (oi := ({ dst := some 27, op := Go.Op.nilCheck (Go.Operand.tmp 26), type := 0, pos := "skip.go:71", after := #[{ on := 3, ground := Go.Ground.data }, { on := 2, ground := Go.Ground.guard }], guard := some (2, true) } : Go.Oper)) (v := undef) rfl (by kernel_rfl) (by kernel_rfl) (by kernel_rfl) (fun _ _ _ h => h) (Or.inr ⟨by rfl, rfl⟩) (by assumption) ?_
  (try simp only [Act.put, List.getElem_toArray, List.getElem_cons_zero, List.getElem_cons_succ, List.setIfInBounds_toArray, List.set_cons_zero, List.set_cons_succ])
  refine wpAnyH_take (i := 5) (oi := ({ dst := some 28, op := Go.Op.fieldAddr 79 (Go.Operand.tmp 27) 0, type := 0, pos := "skip.go:71", after := #[{ on := 4, ground := Go.Ground.data }, { on := 2, ground := Go.Ground.guard }], guard := some (2, true) } : Go.Oper)) (v := undef) rfl (by kernel_rfl) (by kernel_rfl) (by kernel_rfl) (fun _ _ _ h => h) (Or.inr ⟨by rfl, rfl⟩) (by assumption) ?_
  (try simp only [Act.put, List.getElem_toArray, List.getElem_cons_zero, List.getElem_cons_succ, List.setIfInBounds_toArray, List.set_cons_zero, List.set_cons_succ])
  refine wpAnyH_take (i := 6) (oi := ({ dst := some 29, op := Go.Op.load 40 (Go.Operand.tmp 28), type := 40, pos := "skip.go:71", after := #[{ on := 5, ground := Go.Ground.data }, { on := 2, ground := Go.Ground.guard }], guard := some (2, true) } : Go.Oper)) (v := undef) rfl (by kernel_rfl) (by kernel_rfl) (by kernel_rfl) (fun _ _ _ h => h) (Or.inr ⟨by rfl, rfl⟩) (by assumption) ?_
  (try simp only [Act.put, List.getElem_toArray, List.getElem_cons_zero, List.getElem_cons_succ, List.setIfInBounds_toArray, List.set_cons_zero, List.set_cons_succ])
  refine wpAnyH_take (i := 7) (oi := ({ dst := some 30, op := Go.Op.load 40 (Go.Operand.tmp 3), type := 40, pos := "skip.go:71", after := #[{ on := 2, ground := Go.Ground.guard }], guard := some (2, true) } : Go.Oper)) (v := undef) rfl (by kernel_rfl) (by kernel_rfl) (by kernel_rfl) (fun _ _ _ h => h) (Or.inr ⟨by rfl, rfl⟩) (by assumption) ?_
  (try simp only [Act.put, List.getElem_toArray, List.getElem_cons_zero, List.getElem_cons_succ, List.setIfInBounds_toArray, List.set_cons_zero, List.set_cons_succ])
  refine wpAnyH_take (i := 8) (oi := ({ dst := some 31, op := Go.Op.call { callee := Go.Callee.value (Go.Operand.func 48), args := #[Go.Operand.tmp 29, Go.Operand.tmp 30], argTypes := #[40, 40] }, type := 3, pos := "skip.go:71", after := #[{ on := 6, ground := Go.Ground.data }, { on := 7, ground := Go.Ground.data }, { on := 2, ground := Go.Ground.chain }, { on := 2, ground := Go.Ground.guard }], guard := some (2, true) } : Go.Oper)) (v := undef) rfl (by kernel_rfl) (by kernel_rfl) (by kernel_rfl) (fun _ _ _ h => h) (Or.inr ⟨by rfl, rfl⟩) (by assumption) ?_
  (try simp only [Act.put, List.getElem_toArray, List.getElem_cons_zero, List.getElem_cons_succ, List.setIfInBounds_toArray, List.set_cons_zero, List.set_cons_succ])
  refine wpAnyH_take (i := 9) (oi := ({ dst := some 32, op := Go.Op.binOp Go.BinOp.eql 3 (Go.Operand.tmp 31) (Go.Operand.const (Go.Value.int Go.IntKind.i64 0)) 3, type := 4, pos := "skip.go:71", after := #[{ on := 8, ground := Go.Ground.data }, { on := 2, ground := Go.Ground.guard }], guard := some (2, true) } : Go.Oper)) (v := undef) rfl (by kernel_rfl) (by kernel_rfl) (by kernel_rfl) (fun _ _ _ h => h) (Or.inr ⟨by rfl, rfl⟩) (by assumption) ?_
  (try simp only [Act.put, List.getElem_toArray, List.getElem_cons_zero, List.getElem_cons_succ, List.setIfInBounds_toArray, List.set_cons_zero, List.set_cons_succ])
  refine wpAnyH_take (i := 10) (oi := ({ dst := some 33, op := Go.Op.pick (Go.Operand.tmp 25) (Go.Operand.tmp 32) (Go.Operand.const (Go.Value.bool false)), type := 4, pos := "skip.go:71", after := #[{ on := 2, ground := Go.Ground.data }, { on := 9, ground := Go.Ground.data }], guard := none } : Go.Oper)) (v := ?v4) rfl (by kernel_rfl) (by kernel_rfl) (by kernel_rfl) (fun _ _ _ h => h) (Or.inl ⟨by rfl, ?hy4⟩) (by assumption) ?rest4
  case hy4 => (intro w hSw; (try dsimp only at hSw); go_simp; (try with_reducible rfl))
  (try simp only [Act.put, List.getElem_toArray, List.getElem_cons_zero, List.getElem_cons_succ, List.setIfInBounds_toArray, List.set_cons_zero, List.set_cons_succ])
  refine wpAnyH_done (by kernel_rfl) ?_ _
  have X34 := Lib.hid (show Ext w3 (w3.alloc (.cells #[.pointer (some ⟨lst h 0 A0, 0, none⟩), .pointer (some ⟨lst h 1 A0, 0, none⟩), .pointer (some ⟨lst h 2 A0, 0, none⟩), .pointer (some ⟨lst h 3 A0, 0, none⟩), .pointer (some ⟨lst h 4 A0, 0, none⟩), .pointer (some ⟨lst h 5 A0, 0, none⟩), .pointer (some ⟨lst h 6 A0, 0, none⟩), .pointer (some ⟨lst h 7 A0, 0, none⟩)] 73)).drew from (by with_reducible (repeat (first | exact Ext.rfl_ _ | assumption | refine Ext.drew ?_ | refine Ext.drewN ?_ _ | refine Ext.alloc ?_ _ | refine Ext.trans ?_ (by assumption)))))
  obtain ⟨w4, hw4⟩ : ∃ w4, w4 = (w3.alloc (.cells #[.pointer (some ⟨lst h 0 A0, 0, none⟩), .pointer (some ⟨lst h 1 A0, 0, none⟩), .pointer (some ⟨lst h 2 A0, 0, none⟩), .pointer (some ⟨lst h 3 A0, 0, none⟩), .pointer (some ⟨lst h 4 A0, 0, none⟩), .pointer (some ⟨lst h 5 A0, 0, none⟩), .pointer (some ⟨lst h 6 A0, 0, none⟩), .pointer (some ⟨lst h 7 A0, 0, none⟩)] 73)).drew := ⟨_, rfl⟩
  have X34b := Lib.hid (show Ext (w3.alloc (.cells #[.pointer (some ⟨lst h 0 A0, 0, none⟩), .pointer (some ⟨lst h 1 A0, 0, none⟩), .pointer (some ⟨lst h 2 A0, 0, none⟩), .pointer (some ⟨lst h 3 A0, 0, none⟩), .pointer (some ⟨lst h 4 A0, 0, none⟩), .pointer (some ⟨lst h 5 A0, 0, none⟩), .pointer (some ⟨lst h 6 A0, 0, none⟩), .pointer (some ⟨lst h 7 A0, 0, none⟩)] 73)) w4 by rw [hw4]; exact (by with_reducible (repeat (first | exact Ext.rfl_ _ | assumption | refine Ext.drew ?_ | refine Ext.drewN ?_ _ | refine Ext.alloc ?_ _ | refine Ext.trans ?_ (by assumption)))))
  rw [← hw4] at X34 ⊢
  clear hw4

  have HBX4 := Lib.hid (X34.out.blk HBX3.out)
  have HL4 := Lib.hid (X34b.out.blk (blk1 w3 (.cells #[.pointer (some ⟨lst h 0 A0, 0, none⟩), .pointer (some ⟨lst h 1 A0, 0, none⟩), .pointer (some ⟨lst h 2 A0, 0, none⟩), .pointer (some ⟨lst h 3 A0, 0, none⟩), .pointer (some ⟨lst h 4 A0, 0, none⟩), .pointer (some ⟨lst h 5 A0, 0, none⟩), .pointer (some ⟨lst h 6 A0, 0, none⟩), .pointer (some ⟨lst h 7 A0, 0, none⟩)] 73)))
  have X4 := Lib.hid (X3.out.trans X34.out)
  obtain ⟨q0, q1, q2, q3, _, _, _, _⟩ := box4 HBX4.out (Ext.rfl_ _)
  go_wp2_with fail
  refine (copyF_any _ x _ (HX.out.ext (X4.out.trans (by with_reducible (repeat (first | exact Ext.rfl_ _ | assumption | refine Ext.drew ?_ | refine Ext.drewN ?_ _ | refine Ext.alloc ?_ _ | refine Ext.trans ?_ (by assumption))))))).mono ?_
  rintro e w5 ⟨v5, rfl, hf5, hw5⟩
  have HF5 := Lib.hid hf5
  obtain ⟨A5, n5, c5, B5, m5, d5, rfl, _⟩ := hf5
  have X45 := Lib.hid (show Ext w4 w5 from (by with_reducible (repeat (first | exact Ext.rfl_ _ | assumption | refine Ext.drew ?_ | refine Ext.drewN ?_ _ | refine Ext.alloc ?_ _ | refine Ext.trans ?_ (by assumption)))))
  have HBX5 := Lib.hid (X45.out.blk HBX4.out)
  have HL5 := Lib.hid (X45.out.blk HL4.out)
  clear hw5 q0 q1 q2 q3
  obtain ⟨new, hnew⟩ : ∃ new : Nd, new = ⟨w5.heap.size, ⟨A5, n5, c5, B5, m5, d5⟩, x⟩ := ⟨_, rfl⟩
  obtain ⟨w6, hw6⟩ : ∃ w6, w6 = w5.alloc (ndObj (cellsE ⟨A5, n5, c5, B5, m5, d5⟩ x) (fun _ => .pointer none)) := ⟨_, rfl⟩
  have X56 := Lib.hid (show Ext w5 w6 by rw [hw6]; exact (by with_reducible (repeat (first | exact Ext.rfl_ _ | assumption | refine Ext.drew ?_ | refine Ext.drewN ?_ _ | refine Ext.alloc ?_ _ | refine Ext.trans ?_ (by assumption)))))
  have HNB := Lib.hid (show w6.heap[w5.heap.size]? = some (ndObj (cellsE ⟨A5, n5, c5, B5, m5, d5⟩ x) (fun _ => .pointer none)) by rw [hw6]; exact heap_alloc_new _ _)
  have hw6' : w6 = w5.alloc (.cells #[.slice A5 n5 c5, .int .i64 x.seq, .int .i64 x.kind, .slice B5 m5 d5, .pointer none, .pointer none, .pointer none, .pointer none, .pointer none, .pointer none, .pointer none, .pointer none] 79) := hw6
  obtain ⟨q0, q1, q2, q3, _, _, _, _⟩ := box4 (X56.out.blk HBX5.out) (Ext.rfl_ _)
  rw [hw6'] at q0 q1 q2 q3
  go_wp2_with fail
  rw [← hw6'] at q0 q1 q2 q3 ⊢
  clear hw6 hw6'
  refine (height_any A n c x.key x.seq w6 (HXK.out.ext (X4.out.trans (X45.out.trans X56.out))) HN47.out).mono ?_
  rintro e w7 ⟨rfl, hw7⟩
  have X67 := Lib.hid hw7
  clear hw7 q0 q1 q2 q3
  have X07 := Lib.hid (X4.out.trans (X45.out.trans (X56.out.trans X67.out)))
  have hbsz : w.heap.size ≤ w5.heap.size := (X4.out.trans X45.out).size
  have hgsz : w.heap.size ≤ w3.heap.size := X3.out.size
  have hg5 : w3.heap.size < w5.heap.size := (Array.getElem?_eq_some_iff.1 HL5.out).1
  have HNB7 := Lib.hid (X67.out.blk HNB.out)
  have HL7 := Lib.hid ((X56.out.trans X67.out).blk HL5.out)
  have HBX7 := Lib.hid ((X56.out.trans X67.out).blk HBX5.out)
  have S7 := Lib.hid (HS.out.ext X07.out)
  have HT := Lib.hid (HS.out.lt)
  have hHT : ∃ H, H = ht x := ⟨_, rfl⟩
  obtain ⟨H, hH⟩ := hHT
  have hH8 : 1 ≤ H ∧ H ≤ 8 := by rw [hH]; exact htH_le _ _
  have HH := Lib.hid hH
  rw [show htH x.key x.seq = H from hH.symm]
  clear hH
  have hxH : ht new.x = H := by rw [hnew, HH.out]
  have hbH : new.b = w5.heap.size := by rw [hnew]
  have hhH : cellsE new.h new.x = cellsE ⟨A5, n5, c5, B5, m5, d5⟩ x := by rw [hnew]
  have HXH := Lib.hid hxH
  have HBH := Lib.hid hbH
  have HHH := Lib.hid hhH
  have HNEW := Lib.hid hnew
  clear hxH hbH hhH hnew
  have hP0 : PutI w7 h A0 ([]) new 0 w7 := by
    refine ⟨Kept.rfl_ _ _, ?_, fun A1 A2 e => ?_⟩
    · rw [HBH.out, HHH.out, HNB7.out]
      exact congrArg some (ndObj_congr fun j hj => (if_neg (Nat.not_lt_zero j)).symm)
    · obtain ⟨_, _, _, _, h1, _⟩ := S7.out.sk.at_ (A := A1) (S := A2 ++ ([])) (by rw [e, List.append_assoc])
      have e1 : ∃ cs, cs = cc A1 ∧ w7.heap[cb h A1]? = some (ndObj cs (nxs (cH A1) (A2 ++ ([])))) := by
        rcases List.eq_nil_or_concat A1 with rfl | ⟨D', n', rfl⟩
        · subst e; exact ⟨_, rfl, S7.out.sk.head⟩
        · rw [List.concat_eq_append] at e ⊢
          rw [cb_snoc, cH_snoc]
          exact ⟨_, (cc_snoc _ _).symm, S7.out.sk.node D' n' (A2 ++ ([])) (by rw [e]; simp)⟩
      obtain ⟨cs, rfl, h2⟩ := e1
      exact h2
  go_wp2
  go_loopw [8, 43] (fun _ i wr => ∃ k : Nat, k ≤ H ∧ i = .int .i64 k ∧ PutI w7 h A0 ([]) new k wr) (fun _ i _ => H - (intOf i).toNat)
  case atStart => exact ⟨0, Nat.zero_le _, rfl, hP0⟩
  case round =>
    obtain ⟨k, hk, rfl, hP⟩ := hrel
    by_cases hlt : k < H
    · have hk8 : k < 8 := by omega
      obtain ⟨A1, A2, hA12, hk1, hk2⟩ := last_split k hk8 A0
      have hTlt : ∀ i, i = h ∨ i ∈ A0.map Nd.b → i < w.heap.size := fun i hi => HT.out i (hi.elim (fun e => .inr (.inl e)) (fun e => .inr (.inr (by rw [List.map_append]; exact List.mem_append_left _ e))))
      have hkeepX : ∀ i, w.heap.size ≤ i → i ≠ w5.heap.size → i ≠ new.b ∧ i ≠ h ∧ i ∉ A0.map Nd.b := fun i hi hn => ⟨by rw [HBH.out]; exact hn, fun e => by have := hTlt i (.inl e); omega, fun e => by have := hTlt i (.inr e); omega⟩
      have hla := (hP.keep.block _ (Array.getElem?_eq_some_iff.1 HL7.out).1 (hkeepX _ hgsz (by omega))).trans HL7.out
      have hcb : cb h A1 < w.heap.size := hTlt _ (by have := cb_mem h A1 A2; rw [← hA12] at this; exact this)
      have c1 : wr.cell? ⟨w3.heap.size, k, none⟩ = some (.pointer (some ⟨cb h A1, 0, none⟩)) := by
        have e2 := arr8_get (f := fun j => ptr (lst h j A0)) k hk8
        have e3 : lst h k A0 = cb h A1 := by rw [hA12]; exact lst_eq hk1 hk2
        rw [e3] at e2
        rw [cell_at hla]
        exact e2
      have hpre := hP.pre A1 A2 hA12
      have c2 : wr.cell? ⟨cb h A1, 4 + k, none⟩ = some (nx k ([])) := by
        rw [nd_cell (cc_four A1) hpre k hk8]
        unfold mixf
        rw [if_neg (Nat.lt_irrefl k), nxs, if_pos hk1, nx_low hk2]
      obtain ⟨q, hq⟩ := nx_ptr k ([])
      rw [hq] at c2
      have HQ := Lib.hid hq
      clear hq
      have f2 : wr.frozen? ⟨cb h A1, 4 + k, none⟩ = false := frozen_at hpre
      have hfr := hP.fresh
      rw [HBH.out] at hfr
      have c3 : wr.cell? ⟨w5.heap.size, 4 + k, none⟩ = some (.pointer none) := by
        rw [nd_cell (by rw [HHH.out]; exact ⟨_, _, _, _, rfl⟩) hfr k hk8, if_neg (Nat.lt_irrefl k)]
      have f3 : wr.frozen? ⟨w5.heap.size, 4 + k, none⟩ = false := frozen_at hfr
      have hk8' : (k : Int) < 8 := by omega
      have hne : ¬ cb h A1 = w5.heap.size := by omega
      have hltI : (k : Int) < (H : Int) := by omega
      have HP := Lib.hid hP
      have HA12 := Lib.hid hA12
      have HK1 := Lib.hid hk1
      have HK2 := Lib.hid hk2
      have HCB := Lib.hid hcb
      clear hP hA12 hk1 hk2 hTlt hkeepX hla hpre hfr hcb
      go_wp2
      go_region
      obtain ⟨ts1, ts2, ts3⟩ := two_set (wr := wr) (p := w5.heap.size) (q := cb h A1) (i := 4 + k) (j := 4 + k) (u := .pointer q) (v := .pointer (some ⟨w5.heap.size, 0, none⟩)) hne
      have TS1 := Lib.hid ts1
      have TS2 := Lib.hid ts2
      have TS3 := Lib.hid ts3
      clear ts1 ts2 ts3 c1 c2 c3 f2 f3
      go_wp2
      go_roundw
      case rel =>
        have hnd := S7.out.sk.ne
        rw [List.map_append, ← List.cons_append, List.nodup_append] at hnd
        refine ⟨k + 1, by omega, by go_num, HP.out.step (by rw [HXH.out]; exact hlt) hnd.1 ⟨?_, ?_⟩ HA12.out HK1.out HK2.out ?_ ?_ ?_⟩
        · rw [HBH.out]; intro e; have := HT.out h (.inr (.inl rfl)); omega
        · rw [HBH.out]; intro e; have := HT.out w5.heap.size (.inr (.inr (by rw [List.map_append]; exact List.mem_append_left _ e))); omega
        · rw [HBH.out, HQ.out]; exact TS1.out
        · rw [HBH.out]; exact TS2.out
        · rw [HBH.out]; exact TS3.out
      case measure => simp [intOf]; omega
    · obtain rfl : k = H := by omega
      have hgT := HT.out g (.inl rfl)
      obtain ⟨hgh, hgm⟩ := S7.out.gne
      have hgm' : g ∉ A0.map Nd.b := fun e => hgm (by rw [List.map_append]; exact List.mem_append_left _ e)
      have hli := (hP.keep.block g (by have := X07.out.size; omega) ⟨by rw [HBH.out]; omega, hgh, hgm'⟩).trans S7.out.list
      have hbk : w.heap.size ∉ A0.map Nd.b := fun e => by have := HT.out _ (.inr (.inr (by rw [List.map_append]; exact List.mem_append_left _ e))); omega
      have hbox := (hP.keep.block w.heap.size (Array.getElem?_eq_some_iff.1 HBX7.out).1 ⟨by rw [HBH.out]; have := (Array.getElem?_eq_some_iff.1 HBX5.out).1; omega, by have := HT.out h (.inr (.inl rfl)); omega, hbk⟩).trans HBX7.out
      have hN : ∃ N, N = (A0 ++ ([])).length := ⟨_, rfl⟩
      obtain ⟨N, hN⟩ := hN
      have hM : ∃ M, M = wB ((A0 ++ ([])).map Nd.x) := ⟨_, rfl⟩
      obtain ⟨M, hM⟩ := hM
      have hNle : N ≤ 1000000 := by rw [hN]; exact HLEN.out
      have hMle : M ≤ 65630 * N := by rw [hN, hM]; have := wB_le ((A0 ++ ([])).map Nd.x); rwa [List.length_map] at this
      rw [← hN, ← hM] at hli
      have HP := Lib.hid hP
      have HLI := Lib.hid hli
      have HBOX := Lib.hid hbox
      have HNN := Lib.hid hN
      have HMM := Lib.hid hM
      clear hP hbox hN hM hgm hgm' hbk
      have d1 : wr.cell? ⟨g, 1, none⟩ = some (.int .i64 (N : Nat)) := by rw [cell_at hli]; rfl
      have e1 : wr.frozen? ⟨g, 1, none⟩ = false := frozen_at hli
      clear hli
      have hNI : (N : Int) ≤ 1000000 := by omega
      have hN0 : (0 : Int) ≤ (N : Int) := by omega
      go_wp2
      obtain ⟨wS, hwS⟩ : ∃ wS, wS = wr.setCell ⟨g, 1, none⟩ (.int .i64 ((N : Int) + 1)) := ⟨_, rfl⟩
      have KS := Lib.hid (show Kept (fun i => i ≠ g) wr wS by rw [hwS]; exact (Kept.rfl_ _ wr).setCell (p := ⟨g, 1, none⟩) (fun h => h rfl) _)
      have HGS := Lib.hid (show wS.heap[g]? = some (.cells #[ptr h, .int .i64 ((N : Int) + 1), .int .i64 (M : Nat)] 65 (0, 0)) by rw [hwS, li_set HLI.out]; rfl)
      have HBS := Lib.hid ((KS.out.block w.heap.size (Array.getElem?_eq_some_iff.1 HBOX.out).1 (by omega)).trans HBOX.out)
      have hU := noU_put (B0 := []) (A0 := A0) S7.out HNB7.out (fun _ _ => by simp)
      have HXS := Lib.hid ((HX.out.ext X07.out).keptU ((HP.out.keep.mono (Y := fun i => i ≠ g ∧ i ≠ w5.heap.size ∧ i ≠ h ∧ i ∉ A0.map Nd.b) (fun i hi => ⟨by rw [HBH.out]; exact hi.2.1, hi.2.2⟩)).trans (KS.out.mono fun i hi => hi.1)) hU)
      rw [← hwS]
      clear hwS hU d1 e1
      have hlen := wrE_len x
      have hlI : ((wrE x).length : Int) ≤ 65630 := by omega
      have hl0 : (0 : Int) ≤ ((wrE x).length : Int) := by omega
      have hMI : (M : Int) ≤ 65630000000 := by omega
      have hM0 : (0 : Int) ≤ (M : Int) := by omega
      obtain ⟨t1, t2⟩ := li2 HGS.out (w' := wS) (Ext.rfl_ _)
      obtain ⟨q0, q1, q2, q3, _, _, _, _⟩ := box4 HBS.out (w' := wS) (Ext.rfl_ _)
      go_region_with (first
        | (go_at_call 57; refine (size_any _ x _ (HXS.out.ext (by with_reducible (repeat (first | exact Ext.rfl_ _ | assumption | refine Ext.drew ?_ | refine Ext.drewN ?_ _ | refine Ext.alloc ?_ _ | refine Ext.trans ?_ (by assumption)))))).mono ?_; rintro e w8 ⟨rfl, hw8⟩; obtain ⟨y1, y2⟩ := li2 HGS.out (w' := w8) (by with_reducible (repeat (first | exact Ext.rfl_ _ | assumption | refine Ext.drew ?_ | refine Ext.drewN ?_ _ | refine Ext.alloc ?_ _ | refine Ext.trans ?_ (by assumption))))))
      all_goals
        have X8 : Ext wS w8 := (by with_reducible (repeat (first | exact Ext.rfl_ _ | assumption | refine Ext.drew ?_ | refine Ext.drewN ?_ _ | refine Ext.alloc ?_ _ | refine Ext.trans ?_ (by assumption))))
        have hwr : IntKind.i64.wrap ((M : Int) + ((wrE x).length : Int)) = ((M + (wrE x).length : Nat) : Int) := by rw [IntKind.wrap_i64]; omega
        rw [hwr]
        have HX8 := Lib.hid X8
        clear X8 hwr t1 t2 y1 y2 q0 q1 q2 q3
        obtain ⟨wF, hwF⟩ : ∃ wF, wF = w8.setCell ⟨g, 2, none⟩ (.int .i64 ((M + (wrE x).length : Nat) : Int)) := ⟨_, rfl⟩
        have KF := Lib.hid (show Kept (fun i => i ≠ g) w8 wF by rw [hwF]; exact (Kept.rfl_ _ w8).setCell (p := ⟨g, 2, none⟩) (fun h => h rfl) _)
        have HGF := Lib.hid (show wF.heap[g]? = some (.cells #[ptr h, .int .i64 ((N : Int) + 1), .int .i64 ((M + (wrE x).length : Nat) : Int)] 65 (0, 0)) by rw [hwF, li_set (HX8.out.blk HGS.out)]; rfl)
        rw [← hwF]
        clear hwF
        go_wp2
        go_ret
        have hKrF : Kept (fun i => i ≠ g) wr wF := (KS.out.then_ HX8.out).trans KF.out
        have hsk : SkL wF g h (A0 ++ new :: ([])) := by
          refine PutI.done (by rw [HXH.out]; exact HP.out) S7.out ?_ (by rw [HBH.out, HHH.out]; exact HNB7.out) (fun _ _ => by simp) ?_ hKrF ?_ ?_ ?_ ?_
          · rw [HBH.out]; intro e; have := HT.out _ e; omega
          · rw [HNEW.out]; exact HF5.out.rd.ext (X56.out.trans X67.out)
          · rw [HGF.out, wB_ins, ← HMM.out, HNEW.out]
            refine congrArg (fun z => some (Obj.cells #[ptr h, .int .i64 z, .int .i64 ((M + (wrE x).length : Nat) : Int)] 65 (0, 0))) ?_
            rw [HNN.out]
            simp
            try omega
          · rw [HNEW.out]; exact HA.out
          · rw [HNEW.out]; exact HB.out
          · rw [HNEW.out]; exact HM.out
        refine ⟨rfl, new, by rw [HNEW.out], by rw [HBH.out]; exact hbsz, hsk, ?_, ?_, ?_⟩
        · have k1 := (Kept.of_ext (X := fun _ => True) X07.out)
          have k2 := hP0.keep
          refine ⟨hKrF.os.trans (HP.out.keep.os.trans k1.os), hKrF.tape.trans (HP.out.keep.tape.trans k1.tape), hKrF.output.trans (HP.out.keep.output.trans k1.output), Nat.le_trans k1.size (Nat.le_trans HP.out.keep.size hKrF.size), fun i hi hX => ?_⟩
          have i7 : i < w7.heap.size := Nat.lt_of_lt_of_le hi k1.size
          have e1 := HP.out.keep.block i i7 ⟨by rw [HBH.out]; omega, fun e => hX (.inr (.inl e)), fun e => hX (.inr (.inr (by rw [List.map_append]; exact List.mem_append_left _ e)))⟩
          have e2 := hKrF.block i (Nat.lt_of_lt_of_le i7 HP.out.keep.size) (fun e => hX (.inl e))
          exact e2.trans (e1.trans (k1.block i hi trivial))
        · obtain ⟨_, _, _, _, _, _, e, _, _, _, _, _, _, _, _, h1, h2⟩ := HF5.out
          cases e
          rw [HNEW.out]; exact h1.mono X4.out.size
        · obtain ⟨_, _, _, _, _, _, e, _, _, _, _, _, _, _, _, h1, h2⟩ := HF5.out
          cases e
          rw [HNEW.out]; exact h2.mono X4.out.size

set_option maxRecDepth 100000 in
set_option maxHeartbeats 8000000 in
theorem skput_mid (g h : Nat) (A0 D : List Nd) (nd : Nd) (v : Value) (x : Ent) (w : World) (s : SkL w g h (A0 ++ nd :: D)) (hx : RdE w v x) (hm : mayE x = true) (ha : ∀ a ∈ A0, cmpE a.x x < 0) (hB : ∀ b ∈ nd :: D, cmpE x b.x < 0) (hlen : (A0 ++ nd :: D).length ≤ 1000000) :
    Calls Try.prog 32 #[.pointer (some ⟨g, 0, none⟩), v] w fun e w' => e = .returned (.int .i64 0) ∧ ∃ new : Nd, new.x = x ∧ w.heap.size ≤ new.b ∧ SkL w' g h (A0 ++ new :: nd :: D) ∧
      Kept (fun k => ¬ skT g h (A0 ++ nd :: D) k) w w' ∧ Hi w.heap.size new.h.A new.h.n ∧ Hi w.heap.size new.h.B new.h.m := by
  have HX := Lib.hid hx
  have HS := Lib.hid s
  have HM := Lib.hid hm
  have HA := Lib.hid ha
  have HB := Lib.hid hB
  have HLEN := Lib.hid hlen
  obtain ⟨A, n, c, B, m, d, rfl, hxk, _, _, hn47, _, _⟩ := hx
  have HXK := Lib.hid hxk
  have HN47 := Lib.hid hn47
  have hbx := blk1 w (.cells #[.slice A n c, .int .i64 x.seq, .int .i64 x.kind, .slice B m d] 40)
  obtain ⟨q0, q1, q2, q3, _, _, _, _⟩ := box4 hbx (Ext.rfl_ _)
  have HBX := Lib.hid hbx
  clear s hm ha hbx hB hlen hxk hn47
  go_enter Try.func32, Try.ntmps32
  go_wp2_with fail
  refine (there_any g h _ _ (HS.out.ext (by with_reducible (repeat (first | exact Ext.rfl_ _ | assumption | refine Ext.drew ?_ | refine Ext.drewN ?_ _ | refine Ext.alloc ?_ _ | refine Ext.trans ?_ (by assumption)))))).mono ?_
  rintro e w1 ⟨rfl, rfl⟩
  go_wp2_with fail
  refine (may_any _ x _ (HX.out.ext (by with_reducible (repeat (first | exact Ext.rfl_ _ | assumption | refine Ext.drew ?_ | refine Ext.drewN ?_ _ | refine Ext.alloc ?_ _ | refine Ext.trans ?_ (by assumption)))))).mono ?_
  rintro e w2 ⟨rfl, hw2⟩
  rw [HM.out]
  have X2 := Lib.hid (show Ext w w2 from (by with_reducible (repeat (first | exact Ext.rfl_ _ | assumption | refine Ext.drew ?_ | refine Ext.drewN ?_ _ | refine Ext.alloc ?_ _ | refine Ext.trans ?_ (by assumption)))))
  have HBX2 := Lib.hid (hw2.blk HBX.out)
  clear hw2 q0 q1 q2 q3
  go_wp2_with fail
  refine (search_any 56 #[.pointer (some ⟨w.heap.size, 0, none⟩)] (fun y => decide (cmpE y x < 0)) g h _ A0 (nd :: D) _ (HS.out.ext X2.out) rfl (enters_of Try.func56 (by kernel_rfl) rfl) ?_ ?_ ?_).mono ?_
  · intro W nd' hW hmem
    exact put1_any _ _ _ _ _ _ _ _ x nd'.x W (hW.blk HBX2.out) (HX.out.ext (X2.out.trans hW)) ((HS.out.ext (X2.out.trans hW)).sk.rd nd' hmem)
  · intro a ha; exact decide_eq_true (HA.out a ha)
  · intro b hb; exact decide_eq_false (by have := HB.out b hb; have := cmpE_anti x b.x; omega)
  rintro e w3 ⟨rfl, hw3⟩
  have X3 := Lib.hid (X2.out.trans hw3)
  have HBX3 := Lib.hid (hw3.blk HBX2.out)
  clear hw3
  have hnx : nx 0 (nd :: D) = .pointer (some ⟨nd.b, 0, none⟩) := if_pos (htH_le nd.x.key nd.x.seq).1
  rw [hnx]
  have HNODE := Lib.hid ((HS.out.ext X3.out).sk.node A0 nd D rfl)
  have HRD := Lib.hid ((HS.out.ext X3.out).sk.rd nd (by simp))
  have hcne : ¬ cmpE nd.x x = 0 := by have := HB.out nd (by simp); have := cmpE_anti x nd.x; omega
  have HCNE := Lib.hid hcne
  clear hnx hcne
  go_wp2
  refine wp_region_held_drew (S := (fun w' => (w'.cell? ⟨nd.b, 0, none⟩ = some (.slice nd.h.A nd.h.n nd.h.c) ∧ w'.cell? ⟨nd.b, 1, none⟩ = some (.int .i64 nd.x.seq) ∧ w'.cell? ⟨nd.b, 2, none⟩ = some (.int .i64 nd.x.kind) ∧ w'.cell? ⟨nd.b, 3, none⟩ = some (.slice nd.h.B nd.h.m nd.h.d)) ∧ w'.cell? ⟨w.heap.size, 0, none⟩ = some (.slice A n c) ∧ w'.cell? ⟨w.heap.size, 1, none⟩ = some (.int .i64 x.seq) ∧ w'.cell? ⟨w.heap.size, 2, none⟩ = some (.int .i64 x.kind) ∧ w'.cell? ⟨w.heap.size, 3, none⟩ = some (.slice B m d) ∧ w'.frozen? ⟨w.heap.size, 0, none⟩ = false ∧ w'.frozen? ⟨w.heap.size, 1, none⟩ = false ∧ w'.frozen? ⟨w.heap.size, 2, none⟩ = false ∧ w'.frozen? ⟨w.heap.size, 3, none⟩ = false)) (by kernel_rfl) (by (try dsimp only); exact ⟨nod4 HNODE.out (by with_reducible (repeat (first | exact Ext.rfl_ _ | assumption | refine Ext.drew ?_ | refine Ext.drewN ?_ _ | refine Ext.alloc ?_ _ | refine Ext.trans ?_ (by assumption)))), box4 HBX3.out (by with_reducible (repeat (first | exact Ext.rfl_ _ | assumption | refine Ext.drew ?_ | refine Ext.drewN ?_ _ | refine Ext.alloc ?_ _ | refine Ext.trans ?_ (by assumption))))⟩) (fun hHeld => ?_)
  refine wpAnyH_take (i := 0) (oi := ({ dst := some 23, op := Go.Op.move (Go.Operand.tmp 6), type := 63, pos := "skip.go:71", after := #[], guard := none } : Go.Oper)) (v := ?v5) rfl (by kernel_rfl) (by kernel_rfl) (by kernel_rfl) (fun _ _ _ h => h) (Or.inl ⟨by rfl, ?hy5⟩) (by assumption) ?rest5
  case hy5 => (intro w hSw; (try dsimp only at hSw); go_simp; (try with_reducible rfl))
  (try simp only [Act.put, List.getElem_toArray, List.getElem_cons_zero, List.getElem_cons_succ, List.setIfInBounds_toArray, List.set_cons_zero, List.set_cons_succ])
  refine wpAnyH_take (i := 1) (oi := ({ dst := some 24, op := Go.Op.binOp Go.BinOp.neq 63 (Go.Operand.tmp 23) (Go.Operand.const (Go.Value.pointer none)) 63, type := 4, pos := "skip.go:71", after := #[{ on := 0, ground := Go.Ground.data }], guard := none } : Go.Oper)) (v := ?v6) rfl (by kernel_rfl) (by kernel_rfl) (by kernel_rfl) (fun _ _ _ h => h) (Or.inl ⟨by rfl, ?hy6⟩) (by assumption) ?rest6
  case hy6 => (intro w hSw; (try dsimp only at hSw); go_simp; (try with_reducible rfl))
  (try simp only [Act.put, List.getElem_toArray, List.getElem_cons_zero, List.getElem_cons_succ, List.setIfInBounds_toArray, List.set_cons_zero, List.set_cons_succ])
  refine wpAnyH_take (i := 2) (oi := ({ dst := some 25, op := Go.Op.move (Go.Operand.tmp 24), type := 4, pos := "skip.go:71", after := #[{ on := 1, ground := Go.Ground.data }], guard := none } : Go.Oper)) (v := ?v7) rfl (by kernel_rfl) (by kernel_rfl) (by kernel_rfl) (fun _ _ _ h => h) (Or.inl ⟨by rfl, ?hy7⟩) (by assumption) ?rest7
  case hy7 => (intro w hSw; (try dsimp only at hSw); go_simp; (try with_reducible rfl))
  (try simp only [Act.put, List.getElem_toArray, List.getElem_cons_zero, List.getElem_cons_succ, List.setIfInBounds_toArray, List.set_cons_zero, List.set_cons_succ])
  refine wpAnyH_take (i := 3) (oi := ({ dst := some 26, op := Go.Op.move (Go.Operand.tmp 6), type := 63, pos := "skip.go:71", after := #[{ on := 2, ground := Go.Ground.guard }], guard := some (2, true) } : Go.Oper)) (v := ?v8) rfl (by kernel_rfl) (by kernel_rfl) (by kernel_rfl) (fun _ _ _ h => h) (Or.inl ⟨by rfl, ?hy8⟩) (by assumption) ?rest8
  case hy8 => (intro w hSw; (try dsimp only at hSw); go_simp; (try with_reducible rfl))
  (try simp only [Act.put, List.getElem_toArray, List.getElem_cons_zero, List.getElem_cons_succ, List.setIfInBounds_toArray, List.set_cons_zero, List.set_cons_succ])
  refine wpAnyH_take (i := 7) (oi := ({ dst := some 30, op := Go.Op.load 40 (Go.Operand.tmp 3), type := 40, pos := "skip.go:71", after := #[{ on := 2, ground := Go.Ground.guard }], guard := some (2, true) } : Go.Oper)) (v := ?v9) rfl (by kernel_rfl) (by kernel_rfl) (by kernel_rfl) (fun _ _ _ h => h) (Or.inl ⟨by rfl, ?hy9⟩) (by assumption) ?rest9
  case hy9 => (intro w hSw; (try dsimp only at hSw); go_simp; (try with_reducible rfl))
  (try simp only [Act.put, List.getElem_toArray, List.getElem_cons_zero, List.getElem_cons_succ, List.setIfInBounds_toArray, List.set_cons_zero, List.set_cons_succ])
  refine wpAnyH_ready (rs := [4]) (by kernel_rfl) (by simp) ?_
  refine AllReadyH.cons (o := ({ dst := some 27, op := Go.Op.nilCheck (Go.Operand.tmp 26), type := 0, pos := "skip.go:71", after := #[{ on := 3, ground := Go.Ground.data }, { on := 2, ground := Go.Ground.guard }], guard := some (2, true) } : Go.Oper)) rfl (fun K hK => ?_) AllReadyH.nil
  go_simp
  refine hK.out _ _ (by (try dsimp only); exact ⟨nod4 HNODE.out (by with_reducible (repeat (first | exact Ext.rfl_ _ | assumption | refine Ext.drew ?_ | refine Ext.drewN ?_ _ | refine Ext.alloc ?_ _ | refine Ext.trans ?_ (by assumption)))), box4 HBX3.out (by with_reducible (repeat (first | exact Ext.rfl_ _ | assumption | refine Ext.drew ?_ | refine Ext.drewN ?_ _ | refine Ext.alloc ?_ _ | refine Ext.trans ?_ (by assumption))))⟩) (fun hHeld => ?_)
  clear hK K
  (try simp only [Act.put, List.getElem_toArray, List.getElem_cons_zero, List.getElem_cons_succ, List.setIfInBounds_toArray, List.set_cons_zero, List.set_cons_succ])
  refine wpAnyH_take (i := 5) (oi := ({ dst := some 28, op := Go.Op.fieldAddr 79 (Go.Operand.tmp 27) 0, type := 0, pos := "skip.go:71", after := #[{ on := 4, ground := Go.Ground.data }, { on := 2, ground := Go.Ground.guard }], guard := some (2, true) } : Go.Oper)) (v := ?v10) rfl (by kernel_rfl) (by kernel_rfl) (by kernel_rfl) (fun _ _ _ h => h) (Or.inl ⟨by rfl, ?hy10⟩) (by assumption) ?rest10
  case hy10 => (intro w hSw; (try dsimp only at hSw); go_simp; (try with_reducible rfl))
  (try simp only [Act.put, List.getElem_toArray, List.getElem_cons_zero, List.getElem_cons_succ, List.setIfInBounds_toArray, List.set_cons_zero, List.set_cons_succ])
  refine wpAnyH_take (i := 6) (oi := ({ dst := some 29, op := Go.Op.load 40 (Go.Operand.tmp 28), type := 40, pos := "skip.go:71", after := #[{ on := 5, ground := Go.Ground.data }, { on := 2, ground := Go.Ground.guard }], guard := some (2, true) } : Go.Oper)) (v := ?v11) rfl (by kernel_rfl) (by kernel_rfl) (by kernel_rfl) (fun _ _ _ h => h) (Or.inl ⟨by rfl, ?hy11⟩) (by assumption) ?rest11
  case hy11 => (intro w hSw; (try dsimp only at hSw); go_simp; (try with_reducible rfl))
  (try simp only [Act.put, List.getElem_toArray, List.getElem_cons_zero, List.getElem_cons_succ, List.setIfInBounds_toArray, List.set_cons_zero, List.set_cons_succ])
  refine wpAnyH_ready (rs := [8]) (by kernel_rfl) (by simp) ?_
  refine AllReadyH.cons (o := ({ dst := some 31, op := Go.Op.call { callee := Go.Callee.value (Go.Operand.func 48), args := #[Go.Operand.tmp 29, Go.Operand.tmp 30], argTypes := #[40, 40] }, type := 3, pos := "skip.go:71", after := #[{ on := 6, ground := Go.Ground.data }, { on := 7, ground := Go.Ground.data }, { on := 2, ground := Go.Ground.chain }, { on := 2, ground := Go.Ground.guard }], guard := some (2, true) } : Go.Oper)) rfl (fun K hK => ?_) AllReadyH.nil
  go_simp
  refine (compare_any _ _ nd.x x _ (HRD.out.ext (by with_reducible (repeat (first | exact Ext.rfl_ _ | assumption | refine Ext.drew ?_ | refine Ext.drewN ?_ _ | refine Ext.alloc ?_ _ | refine Ext.trans ?_ (by assumption))))) (HX.out.ext (Ext.trans X3.out (by with_reducible (repeat (first | exact Ext.rfl_ _ | assumption | refine Ext.drew ?_ | refine Ext.drewN ?_ _ | refine Ext.alloc ?_ _ | refine Ext.trans ?_ (by assumption))))))).mono ?_; rintro e w4 ⟨rfl, hw4⟩; have hcne := HCNE.out
  (try (go_wp2_with fail))
  refine hK.out _ _ (by (try dsimp only); exact ⟨nod4 HNODE.out (by with_reducible (repeat (first | exact Ext.rfl_ _ | assumption | refine Ext.drew ?_ | refine Ext.drewN ?_ _ | refine Ext.alloc ?_ _ | refine Ext.trans ?_ (by assumption)))), box4 HBX3.out (by with_reducible (repeat (first | exact Ext.rfl_ _ | assumption | refine Ext.drew ?_ | refine Ext.drewN ?_ _ | refine Ext.alloc ?_ _ | refine Ext.trans ?_ (by assumption))))⟩) (fun hHeld => ?_)
  clear hK K
  (try simp only [Act.put, List.getElem_toArray, List.getElem_cons_zero, List.getElem_cons_succ, List.setIfInBounds_toArray, List.set_cons_zero, List.set_cons_succ])
  refine wpAnyH_take (i := 9) (oi := ({ dst := some 32, op := Go.Op.binOp Go.BinOp.eql 3 (Go.Operand.tmp 31) (Go.Operand.const (Go.Value.int Go.IntKind.i64 0)) 3, type := 4, pos := "skip.go:71", after := #[{ on := 8, ground := Go.Ground.data }, { on := 2, ground := Go.Ground.guard }], guard := some (2, true) } : Go.Oper)) (v := ?v12) rfl (by kernel_rfl) (by kernel_rfl) (by kernel_rfl) (fun _ _ _ h => h) (Or.inl ⟨by rfl, ?hy12⟩) (by assumption) ?rest12
  case hy12 => (intro w hSw; (try dsimp only at hSw); go_simp; (try with_reducible rfl))
  (try simp only [Act.put, List.getElem_toArray, List.getElem_cons_zero, List.getElem_cons_succ, List.setIfInBounds_toArray, List.set_cons_zero, List.set_cons_succ])
  refine wpAnyH_take (i := 10) (oi := ({ dst := some 33, op := Go.Op.pick (Go.Operand.tmp 25) (Go.Operand.tmp 32) (Go.Operand.const (Go.Value.bool false)), type := 4, pos := "skip.go:71", after := #[{ on := 2, ground := Go.Ground.data }, { on := 9, ground := Go.Ground.data }], guard := none } : Go.Oper)) (v := ?v13) rfl (by kernel_rfl) (by kernel_rfl) (by kernel_rfl) (fun _ _ _ h => h) (Or.inl ⟨by rfl, ?hy13⟩) (by assumption) ?rest13
  case hy13 => (intro w hSw; (try dsimp only at hSw); go_simp; (try with_reducible rfl))
  (try simp only [Act.put, List.getElem_toArray, List.getElem_cons_zero, List.getElem_cons_succ, List.setIfInBounds_toArray, List.set_cons_zero, List.set_cons_succ])
  refine wpAnyH_done (by kernel_rfl) ?_ _
  have X34 := Lib.hid (show Ext w3 w4 from (by with_reducible (repeat (first | exact Ext.rfl_ _ | assumption | refine Ext.drew ?_ | refine Ext.drewN ?_ _ | refine Ext.alloc ?_ _ | refine Ext.trans ?_ (by assumption)))))
  have X34b := Lib.hid (show Ext (w3.alloc (.cells #[.pointer (some ⟨lst h 0 A0, 0, none⟩), .pointer (some ⟨lst h 1 A0, 0, none⟩), .pointer (some ⟨lst h 2 A0, 0, none⟩), .pointer (some ⟨lst h 3 A0, 0, none⟩), .pointer (some ⟨lst h 4 A0, 0, none⟩), .pointer (some ⟨lst h 5 A0, 0, none⟩), .pointer (some ⟨lst h 6 A0, 0, none⟩), .pointer (some ⟨lst h 7 A0, 0, none⟩)] 73)) w4 from (by with_reducible (repeat (first | exact Ext.rfl_ _ | assumption | refine Ext.drew ?_ | refine Ext.drewN ?_ _ | refine Ext.alloc ?_ _ | refine Ext.trans ?_ (by assumption)))))
  clear hw4

  have HBX4 := Lib.hid (X34.out.blk HBX3.out)
  have HL4 := Lib.hid (X34b.out.blk (blk1 w3 (.cells #[.pointer (some ⟨lst h 0 A0, 0, none⟩), .pointer (some ⟨lst h 1 A0, 0, none⟩), .pointer (some ⟨lst h 2 A0, 0, none⟩), .pointer (some ⟨lst h 3 A0, 0, none⟩), .pointer (some ⟨lst h 4 A0, 0, none⟩), .pointer (some ⟨lst h 5 A0, 0, none⟩), .pointer (some ⟨lst h 6 A0, 0, none⟩), .pointer (some ⟨lst h 7 A0, 0, none⟩)] 73)))
  have X4 := Lib.hid (X3.out.trans X34.out)
  obtain ⟨q0, q1, q2, q3, _, _, _, _⟩ := box4 HBX4.out (Ext.rfl_ _)
  go_wp2_with fail
  refine (copyF_any _ x _ (HX.out.ext (X4.out.trans (by with_reducible (repeat (first | exact Ext.rfl_ _ | assumption | refine Ext.drew ?_ | refine Ext.drewN ?_ _ | refine Ext.alloc ?_ _ | refine Ext.trans ?_ (by assumption))))))).mono ?_
  rintro e w5 ⟨v5, rfl, hf5, hw5⟩
  have HF5 := Lib.hid hf5
  obtain ⟨A5, n5, c5, B5, m5, d5, rfl, _⟩ := hf5
  have X45 := Lib.hid (show Ext w4 w5 from (by with_reducible (repeat (first | exact Ext.rfl_ _ | assumption | refine Ext.drew ?_ | refine Ext.drewN ?_ _ | refine Ext.alloc ?_ _ | refine Ext.trans ?_ (by assumption)))))
  have HBX5 := Lib.hid (X45.out.blk HBX4.out)
  have HL5 := Lib.hid (X45.out.blk HL4.out)
  clear hw5 q0 q1 q2 q3
  obtain ⟨new, hnew⟩ : ∃ new : Nd, new = ⟨w5.heap.size, ⟨A5, n5, c5, B5, m5, d5⟩, x⟩ := ⟨_, rfl⟩
  obtain ⟨w6, hw6⟩ : ∃ w6, w6 = w5.alloc (ndObj (cellsE ⟨A5, n5, c5, B5, m5, d5⟩ x) (fun _ => .pointer none)) := ⟨_, rfl⟩
  have X56 := Lib.hid (show Ext w5 w6 by rw [hw6]; exact (by with_reducible (repeat (first | exact Ext.rfl_ _ | assumption | refine Ext.drew ?_ | refine Ext.drewN ?_ _ | refine Ext.alloc ?_ _ | refine Ext.trans ?_ (by assumption)))))
  have HNB := Lib.hid (show w6.heap[w5.heap.size]? = some (ndObj (cellsE ⟨A5, n5, c5, B5, m5, d5⟩ x) (fun _ => .pointer none)) by rw [hw6]; exact heap_alloc_new _ _)
  have hw6' : w6 = w5.alloc (.cells #[.slice A5 n5 c5, .int .i64 x.seq, .int .i64 x.kind, .slice B5 m5 d5, .pointer none, .pointer none, .pointer none, .pointer none, .pointer none, .pointer none, .pointer none, .pointer none] 79) := hw6
  obtain ⟨q0, q1, q2, q3, _, _, _, _⟩ := box4 (X56.out.blk HBX5.out) (Ext.rfl_ _)
  rw [hw6'] at q0 q1 q2 q3
  go_wp2_with fail
  rw [← hw6'] at q0 q1 q2 q3 ⊢
  clear hw6 hw6'
  refine (height_any A n c x.key x.seq w6 (HXK.out.ext (X4.out.trans (X45.out.trans X56.out))) HN47.out).mono ?_
  rintro e w7 ⟨rfl, hw7⟩
  have X67 := Lib.hid hw7
  clear hw7 q0 q1 q2 q3
  have X07 := Lib.hid (X4.out.trans (X45.out.trans (X56.out.trans X67.out)))
  have hbsz : w.heap.size ≤ w5.heap.size := (X4.out.trans X45.out).size
  have hgsz : w.heap.size ≤ w3.heap.size := X3.out.size
  have hg5 : w3.heap.size < w5.heap.size := (Array.getElem?_eq_some_iff.1 HL5.out).1
  have HNB7 := Lib.hid (X67.out.blk HNB.out)
  have HL7 := Lib.hid ((X56.out.trans X67.out).blk HL5.out)
  have HBX7 := Lib.hid ((X56.out.trans X67.out).blk HBX5.out)
  have S7 := Lib.hid (HS.out.ext X07.out)
  have HT := Lib.hid (HS.out.lt)
  have hHT : ∃ H, H = ht x := ⟨_, rfl⟩
  obtain ⟨H, hH⟩ := hHT
  have hH8 : 1 ≤ H ∧ H ≤ 8 := by rw [hH]; exact htH_le _ _
  have HH := Lib.hid hH
  rw [show htH x.key x.seq = H from hH.symm]
  clear hH
  have hxH : ht new.x = H := by rw [hnew, HH.out]
  have hbH : new.b = w5.heap.size := by rw [hnew]
  have hhH : cellsE new.h new.x = cellsE ⟨A5, n5, c5, B5, m5, d5⟩ x := by rw [hnew]
  have HXH := Lib.hid hxH
  have HBH := Lib.hid hbH
  have HHH := Lib.hid hhH
  have HNEW := Lib.hid hnew
  clear hxH hbH hhH hnew
  have hP0 : PutI w7 h A0 (nd :: D) new 0 w7 := by
    refine ⟨Kept.rfl_ _ _, ?_, fun A1 A2 e => ?_⟩
    · rw [HBH.out, HHH.out, HNB7.out]
      exact congrArg some (ndObj_congr fun j hj => (if_neg (Nat.not_lt_zero j)).symm)
    · obtain ⟨_, _, _, _, h1, _⟩ := S7.out.sk.at_ (A := A1) (S := A2 ++ (nd :: D)) (by rw [e, List.append_assoc])
      have e1 : ∃ cs, cs = cc A1 ∧ w7.heap[cb h A1]? = some (ndObj cs (nxs (cH A1) (A2 ++ (nd :: D)))) := by
        rcases List.eq_nil_or_concat A1 with rfl | ⟨D', n', rfl⟩
        · subst e; exact ⟨_, rfl, S7.out.sk.head⟩
        · rw [List.concat_eq_append] at e ⊢
          rw [cb_snoc, cH_snoc]
          exact ⟨_, (cc_snoc _ _).symm, S7.out.sk.node D' n' (A2 ++ (nd :: D)) (by rw [e]; simp)⟩
      obtain ⟨cs, rfl, h2⟩ := e1
      exact h2
  go_wp2
  go_loopw [8, 43] (fun _ i wr => ∃ k : Nat, k ≤ H ∧ i = .int .i64 k ∧ PutI w7 h A0 (nd :: D) new k wr) (fun _ i _ => H - (intOf i).toNat)
  case atStart => exact ⟨0, Nat.zero_le _, rfl, hP0⟩
  case round =>
    obtain ⟨k, hk, rfl, hP⟩ := hrel
    by_cases hlt : k < H
    · have hk8 : k < 8 := by omega
      obtain ⟨A1, A2, hA12, hk1, hk2⟩ := last_split k hk8 A0
      have hTlt : ∀ i, i = h ∨ i ∈ A0.map Nd.b → i < w.heap.size := fun i hi => HT.out i (hi.elim (fun e => .inr (.inl e)) (fun e => .inr (.inr (by rw [List.map_append]; exact List.mem_append_left _ e))))
      have hkeepX : ∀ i, w.heap.size ≤ i → i ≠ w5.heap.size → i ≠ new.b ∧ i ≠ h ∧ i ∉ A0.map Nd.b := fun i hi hn => ⟨by rw [HBH.out]; exact hn, fun e => by have := hTlt i (.inl e); omega, fun e => by have := hTlt i (.inr e); omega⟩
      have hla := (hP.keep.block _ (Array.getElem?_eq_some_iff.1 HL7.out).1 (hkeepX _ hgsz (by omega))).trans HL7.out
      have hcb : cb h A1 < w.heap.size := hTlt _ (by have := cb_mem h A1 A2; rw [← hA12] at this; exact this)
      have c1 : wr.cell? ⟨w3.heap.size, k, none⟩ = some (.pointer (some ⟨cb h A1, 0, none⟩)) := by
        have e2 := arr8_get (f := fun j => ptr (lst h j A0)) k hk8
        have e3 : lst h k A0 = cb h A1 := by rw [hA12]; exact lst_eq hk1 hk2
        rw [e3] at e2
        rw [cell_at hla]
        exact e2
      have hpre := hP.pre A1 A2 hA12
      have c2 : wr.cell? ⟨cb h A1, 4 + k, none⟩ = some (nx k (nd :: D)) := by
        rw [nd_cell (cc_four A1) hpre k hk8]
        unfold mixf
        rw [if_neg (Nat.lt_irrefl k), nxs, if_pos hk1, nx_low hk2]
      obtain ⟨q, hq⟩ := nx_ptr k (nd :: D)
      rw [hq] at c2
      have HQ := Lib.hid hq
      clear hq
      have f2 : wr.frozen? ⟨cb h A1, 4 + k, none⟩ = false := frozen_at hpre
      have hfr := hP.fresh
      rw [HBH.out] at hfr
      have c3 : wr.cell? ⟨w5.heap.size, 4 + k, none⟩ = some (.pointer none) := by
        rw [nd_cell (by rw [HHH.out]; exact ⟨_, _, _, _, rfl⟩) hfr k hk8, if_neg (Nat.lt_irrefl k)]
      have f3 : wr.frozen? ⟨w5.heap.size, 4 + k, none⟩ = false := frozen_at hfr
      have hk8' : (k : Int) < 8 := by omega
      have hne : ¬ cb h A1 = w5.heap.size := by omega
      have hltI : (k : Int) < (H : Int) := by omega
      have HP := Lib.hid hP
      have HA12 := Lib.hid hA12
      have HK1 := Lib.hid hk1
      have HK2 := Lib.hid hk2
      have HCB := Lib.hid hcb
      clear hP hA12 hk1 hk2 hTlt hkeepX hla hpre hfr hcb
      go_wp2
      go_region
      obtain ⟨ts1, ts2, ts3⟩ := two_set (wr := wr) (p := w5.heap.size) (q := cb h A1) (i := 4 + k) (j := 4 + k) (u := .pointer q) (v := .pointer (some ⟨w5.heap.size, 0, none⟩)) hne
      have TS1 := Lib.hid ts1
      have TS2 := Lib.hid ts2
      have TS3 := Lib.hid ts3
      clear ts1 ts2 ts3 c1 c2 c3 f2 f3
      go_wp2
      go_roundw
      case rel =>
        have hnd := S7.out.sk.ne
        rw [List.map_append, ← List.cons_append, List.nodup_append] at hnd
        refine ⟨k + 1, by omega, by go_num, HP.out.step (by rw [HXH.out]; exact hlt) hnd.1 ⟨?_, ?_⟩ HA12.out HK1.out HK2.out ?_ ?_ ?_⟩
        · rw [HBH.out]; intro e; have := HT.out h (.inr (.inl rfl)); omega
        · rw [HBH.out]; intro e; have := HT.out w5.heap.size (.inr (.inr (by rw [List.map_append]; exact List.mem_append_left _ e))); omega
        · rw [HBH.out, HQ.out]; exact TS1.out
        · rw [HBH.out]; exact TS2.out
        · rw [HBH.out]; exact TS3.out
      case measure => simp [intOf]; omega
    · obtain rfl : k = H := by omega
      have hgT := HT.out g (.inl rfl)
      obtain ⟨hgh, hgm⟩ := S7.out.gne
      have hgm' : g ∉ A0.map Nd.b := fun e => hgm (by rw [List.map_append]; exact List.mem_append_left _ e)
      have hli := (hP.keep.block g (by have := X07.out.size; omega) ⟨by rw [HBH.out]; omega, hgh, hgm'⟩).trans S7.out.list
      have hbk : w.heap.size ∉ A0.map Nd.b := fun e => by have := HT.out _ (.inr (.inr (by rw [List.map_append]; exact List.mem_append_left _ e))); omega
      have hbox := (hP.keep.block w.heap.size (Array.getElem?_eq_some_iff.1 HBX7.out).1 ⟨by rw [HBH.out]; have := (Array.getElem?_eq_some_iff.1 HBX5.out).1; omega, by have := HT.out h (.inr (.inl rfl)); omega, hbk⟩).trans HBX7.out
      have hN : ∃ N, N = (A0 ++ (nd :: D)).length := ⟨_, rfl⟩
      obtain ⟨N, hN⟩ := hN
      have hM : ∃ M, M = wB ((A0 ++ (nd :: D)).map Nd.x) := ⟨_, rfl⟩
      obtain ⟨M, hM⟩ := hM
      have hNle : N ≤ 1000000 := by rw [hN]; exact HLEN.out
      have hMle : M ≤ 65630 * N := by rw [hN, hM]; have := wB_le ((A0 ++ (nd :: D)).map Nd.x); rwa [List.length_map] at this
      rw [← hN, ← hM] at hli
      have HP := Lib.hid hP
      have HLI := Lib.hid hli
      have HBOX := Lib.hid hbox
      have HNN := Lib.hid hN
      have HMM := Lib.hid hM
      clear hP hbox hN hM hgm hgm' hbk
      have d1 : wr.cell? ⟨g, 1, none⟩ = some (.int .i64 (N : Nat)) := by rw [cell_at hli]; rfl
      have e1 : wr.frozen? ⟨g, 1, none⟩ = false := frozen_at hli
      clear hli
      have hNI : (N : Int) ≤ 1000000 := by omega
      have hN0 : (0 : Int) ≤ (N : Int) := by omega
      go_wp2
      obtain ⟨wS, hwS⟩ : ∃ wS, wS = wr.setCell ⟨g, 1, none⟩ (.int .i64 ((N : Int) + 1)) := ⟨_, rfl⟩
      have KS := Lib.hid (show Kept (fun i => i ≠ g) wr wS by rw [hwS]; exact (Kept.rfl_ _ wr).setCell (p := ⟨g, 1, none⟩) (fun h => h rfl) _)
      have HGS := Lib.hid (show wS.heap[g]? = some (.cells #[ptr h, .int .i64 ((N : Int) + 1), .int .i64 (M : Nat)] 65 (0, 0)) by rw [hwS, li_set HLI.out]; rfl)
      have HBS := Lib.hid ((KS.out.block w.heap.size (Array.getElem?_eq_some_iff.1 HBOX.out).1 (by omega)).trans HBOX.out)
      have hU := noU_put (B0 := nd :: D) (A0 := A0) S7.out HNB7.out (fun _ _ => by simp)
      have HXS := Lib.hid ((HX.out.ext X07.out).keptU ((HP.out.keep.mono (Y := fun i => i ≠ g ∧ i ≠ w5.heap.size ∧ i ≠ h ∧ i ∉ A0.map Nd.b) (fun i hi => ⟨by rw [HBH.out]; exact hi.2.1, hi.2.2⟩)).trans (KS.out.mono fun i hi => hi.1)) hU)
      rw [← hwS]
      clear hwS hU d1 e1
      have hlen := wrE_len x
      have hlI : ((wrE x).length : Int) ≤ 65630 := by omega
      have hl0 : (0 : Int) ≤ ((wrE x).length : Int) := by omega
      have hMI : (M : Int) ≤ 65630000000 := by omega
      have hM0 : (0 : Int) ≤ (M : Int) := by omega
      obtain ⟨t1, t2⟩ := li2 HGS.out (w' := wS) (Ext.rfl_ _)
      obtain ⟨q0, q1, q2, q3, _, _, _, _⟩ := box4 HBS.out (w' := wS) (Ext.rfl_ _)
      go_region_with (first
        | (go_at_call 57; refine (size_any _ x _ (HXS.out.ext (by with_reducible (repeat (first | exact Ext.rfl_ _ | assumption | refine Ext.drew ?_ | refine Ext.drewN ?_ _ | refine Ext.alloc ?_ _ | refine Ext.trans ?_ (by assumption)))))).mono ?_; rintro e w8 ⟨rfl, hw8⟩; obtain ⟨y1, y2⟩ := li2 HGS.out (w' := w8) (by with_reducible (repeat (first | exact Ext.rfl_ _ | assumption | refine Ext.drew ?_ | refine Ext.drewN ?_ _ | refine Ext.alloc ?_ _ | refine Ext.trans ?_ (by assumption))))))
      all_goals
        have X8 : Ext wS w8 := (by with_reducible (repeat (first | exact Ext.rfl_ _ | assumption | refine Ext.drew ?_ | refine Ext.drewN ?_ _ | refine Ext.alloc ?_ _ | refine Ext.trans ?_ (by assumption))))
        have hwr : IntKind.i64.wrap ((M : Int) + ((wrE x).length : Int)) = ((M + (wrE x).length : Nat) : Int) := by rw [IntKind.wrap_i64]; omega
        rw [hwr]
        have HX8 := Lib.hid X8
        clear X8 hwr t1 t2 y1 y2 q0 q1 q2 q3
        obtain ⟨wF, hwF⟩ : ∃ wF, wF = w8.setCell ⟨g, 2, none⟩ (.int .i64 ((M + (wrE x).length : Nat) : Int)) := ⟨_, rfl⟩
        have KF := Lib.hid (show Kept (fun i => i ≠ g) w8 wF by rw [hwF]; exact (Kept.rfl_ _ w8).setCell (p := ⟨g, 2, none⟩) (fun h => h rfl) _)
        have HGF := Lib.hid (show wF.heap[g]? = some (.cells #[ptr h, .int .i64 ((N : Int) + 1), .int .i64 ((M + (wrE x).length : Nat) : Int)] 65 (0, 0)) by rw [hwF, li_set (HX8.out.blk HGS.out)]; rfl)
        rw [← hwF]
        clear hwF
        go_wp2
        go_ret
        have hKrF : Kept (fun i => i ≠ g) wr wF := (KS.out.then_ HX8.out).trans KF.out
        have hsk : SkL wF g h (A0 ++ new :: (nd :: D)) := by
          refine PutI.done (by rw [HXH.out]; exact HP.out) S7.out ?_ (by rw [HBH.out, HHH.out]; exact HNB7.out) (fun _ _ => by simp) ?_ hKrF ?_ ?_ ?_ ?_
          · rw [HBH.out]; intro e; have := HT.out _ e; omega
          · rw [HNEW.out]; exact HF5.out.rd.ext (X56.out.trans X67.out)
          · rw [HGF.out, wB_ins, ← HMM.out, HNEW.out]
            refine congrArg (fun z => some (Obj.cells #[ptr h, .int .i64 z, .int .i64 ((M + (wrE x).length : Nat) : Int)] 65 (0, 0))) ?_
            rw [HNN.out]
            simp
            try omega
          · rw [HNEW.out]; exact HA.out
          · rw [HNEW.out]; exact HB.out
          · rw [HNEW.out]; exact HM.out
        refine ⟨rfl, new, by rw [HNEW.out], by rw [HBH.out]; exact hbsz, hsk, ?_, ?_, ?_⟩
        · have k1 := (Kept.of_ext (X := fun _ => True) X07.out)
          have k2 := hP0.keep
          refine ⟨hKrF.os.trans (HP.out.keep.os.trans k1.os), hKrF.tape.trans (HP.out.keep.tape.trans k1.tape), hKrF.output.trans (HP.out.keep.output.trans k1.output), Nat.le_trans k1.size (Nat.le_trans HP.out.keep.size hKrF.size), fun i hi hX => ?_⟩
          have i7 : i < w7.heap.size := Nat.lt_of_lt_of_le hi k1.size
          have e1 := HP.out.keep.block i i7 ⟨by rw [HBH.out]; omega, fun e => hX (.inr (.inl e)), fun e => hX (.inr (.inr (by rw [List.map_append]; exact List.mem_append_left _ e)))⟩
          have e2 := hKrF.block i (Nat.lt_of_lt_of_le i7 HP.out.keep.size) (fun e => hX (.inl e))
          exact e2.trans (e1.trans (k1.block i hi trivial))
        · obtain ⟨_, _, _, _, _, _, e, _, _, _, _, _, _, _, _, h1, h2⟩ := HF5.out
          cases e
          rw [HNEW.out]; exact h1.mono X4.out.size
        · obtain ⟨_, _, _, _, _, _, e, _, _, _, _, _, _, _, _, h1, h2⟩ := HF5.out
          cases e
          rw [HNEW.out]; exact h2.mono X4.out.size

end Go.Proofs.Ytddaagldelcbeaa
