/- (*skip.List).Get. Conditions: the list is one; the key reads. -/
import Derived.Test.YtddaagldelcbeaaSkQ
import Derived.Shelf.Abstract
namespace Go.Proofs.Ytddaagldelcbeaa
set_option linter.unusedSimpArgs false
set_option linter.unusedVariables false
open Go.RowKit Go.Shelf

set_option maxRecDepth 100000 in
set_option maxHeartbeats 1000000 in
theorem get1_any (gk gs : Nat) (A : Option Addr) (n c : Nat) (sq : Int) (v : Value) (k : Bs) (y : Ent) (w : World) (hg : w.cell? ⟨gk, 0, none⟩ = some (.slice A n c)) (hs : w.cell? ⟨gs, 0, none⟩ = some (.int .i64 sq)) (hk : Rd w A n k) (hnc : n ≤ c) (hn : n ≤ B47) (hy : RdE w v y) :
    Calls Try.prog 47 #[v, .pointer (some ⟨gk, 0, none⟩), .pointer (some ⟨gs, 0, none⟩)] w fun e w' => e = .returned (.bool (decide (cmpE y ⟨k, sq, 0, []⟩ < 0))) ∧ Ext w w' := by
  have HY := Lib.hid hy
  obtain ⟨A', n', c', B', m', d', rfl, _⟩ := hy
  have hx1 : Ext w (w.alloc (.cells #[.slice A' n' c', .int .i64 y.seq, .int .i64 y.kind, .slice B' m' d'] 40)) := (by with_reducible (repeat (first | exact Ext.rfl_ _ | assumption | refine Ext.drew ?_ | refine Ext.drewN ?_ _ | refine Ext.alloc ?_ _ | refine Ext.trans ?_ (by assumption))))
  obtain ⟨q0, q1, q2, q3, _, _, _, _⟩ := box4 (blk1 w (.cells #[.slice A' n' c', .int .i64 y.seq, .int .i64 y.kind, .slice B' m' d'] 40)) (Ext.rfl_ _)
  have hg1 := hx1.keeps _ _ _ hg
  have hs1 := hx1.keeps _ _ _ hs
  have HK := Lib.hid hk
  have HX := Lib.hid hx1
  clear hk hx1 hg hs
  go_enter Try.func47, Try.ntmps47
  go_wp2_with fail
  refine (compare_any _ _ y ⟨k, sq, 0, []⟩ _ (HY.out.ext (by with_reducible (repeat (first | exact Ext.rfl_ _ | assumption | refine Ext.drew ?_ | refine Ext.drewN ?_ _ | refine Ext.alloc ?_ _ | refine Ext.trans ?_ (by assumption))))) ⟨A, n, c, none, 0, 0, rfl, HK.out.ext (by with_reducible (repeat (first | exact Ext.rfl_ _ | assumption | refine Ext.drew ?_ | refine Ext.drewN ?_ _ | refine Ext.alloc ?_ _ | refine Ext.trans ?_ (by assumption)))), Rd.nil _ _, hnc, hn, Nat.le_refl _, Nat.zero_le _⟩).mono ?_
  rintro e w' ⟨rfl, hw'⟩
  go_wp2
  go_ret
  exact ⟨ret_bool rfl, (by with_reducible (repeat (first | exact Ext.rfl_ _ | assumption | refine Ext.drew ?_ | refine Ext.drewN ?_ _ | refine Ext.alloc ?_ _ | refine Ext.trans ?_ (by assumption))))⟩

set_option maxRecDepth 100000 in
set_option maxHeartbeats 4000000 in
theorem skget_end (g h : Nat) (A0 : List Nd) (A : Option Addr) (n c : Nat) (k : Bs) (sq : Int) (w : World) (s : SkL w g h (A0 ++ [])) (hk : Rd w A n k) (hnc : n ≤ c) (hn : n ≤ B47) (ha : ∀ a ∈ A0, cmpE a.x ⟨k, sq, 0, []⟩ < 0) :
    Calls Try.prog 20 #[.pointer (some ⟨g, 0, none⟩), .slice A n c, .int .i64 sq] w fun e w' => e = .returned (.tuple #[.agg #[.slice none 0 0, .int .i64 0, .int .i64 0, .slice none 0 0], .int .i64 6]) ∧ Ext w w' := by
  have HS := Lib.hid s
  have HK := Lib.hid hk
  have HA := Lib.hid ha
  have h0 := cnewB w (.slice A n c) 22
  have h1 := cnewB (w.alloc (.cells #[.slice A n c] 22)) (.int .i64 sq) 2
  rw [World.size_alloc] at h1
  have h2 := blk1 ((w.alloc (.cells #[.slice A n c] 22)).alloc (.cells #[.int .i64 sq] 2)) (.cells #[.slice none 0 0, .int .i64 0, .int .i64 0, .slice none 0 0] 40)
  rw [World.size_alloc, World.size_alloc] at h2
  have HK0 := Lib.hid (show ((w.alloc (.cells #[.slice A n c] 22)).alloc (.cells #[.int .i64 sq] 2)).cell? ⟨w.heap.size, 0, none⟩ = some (.slice A n c) from (Ext.alloc (Ext.rfl_ _) _).keeps _ _ _ h0)
  have HS0 := Lib.hid h1
  have HR0 := Lib.hid h2
  clear s hk ha h0 h1 h2
  go_enter Try.func20, Try.ntmps20
  go_wp2_with fail
  refine (there_any g h _ _ (HS.out.ext (by with_reducible (repeat (first | exact Ext.rfl_ _ | assumption | refine Ext.drew ?_ | refine Ext.drewN ?_ _ | refine Ext.alloc ?_ _ | refine Ext.trans ?_ (by assumption)))))).mono ?_
  rintro e w1 ⟨rfl, hw1⟩
  rw [hw1]
  obtain ⟨W3, hW3⟩ : ∃ W3, W3 = ((w.alloc (.cells #[.slice A n c] 22)).alloc (.cells #[.int .i64 sq] 2)).alloc (.cells #[.slice none 0 0, .int .i64 0, .int .i64 0, .slice none 0 0] 40) := ⟨_, rfl⟩
  have X3 := Lib.hid (show Ext w W3 by rw [hW3]; exact (by with_reducible (repeat (first | exact Ext.rfl_ _ | assumption | refine Ext.drew ?_ | refine Ext.drewN ?_ _ | refine Ext.alloc ?_ _ | refine Ext.trans ?_ (by assumption)))))
  have CK := Lib.hid (show W3.cell? ⟨w.heap.size, 0, none⟩ = some (.slice A n c) by rw [hW3]; exact (Ext.alloc (Ext.rfl_ _) _).keeps _ _ _ HK0.out)
  have CS := Lib.hid (show W3.cell? ⟨w.heap.size + 1, 0, none⟩ = some (.int .i64 sq) by rw [hW3]; exact (Ext.alloc (Ext.rfl_ _) _).keeps _ _ _ HS0.out)
  have CR := Lib.hid (show W3.heap[w.heap.size + 1 + 1]? = some (.cells #[.slice none 0 0, .int .i64 0, .int .i64 0, .slice none 0 0] 40 (0, 0)) by rw [hW3]; exact HR0.out)
  rw [← hW3]
  clear hw1 hW3
  go_wp2_with fail
  refine (search_any 47 #[.pointer (some ⟨w.heap.size, 0, none⟩), .pointer (some ⟨w.heap.size + 1, 0, none⟩)] (fun y => decide (cmpE y ⟨k, sq, 0, []⟩ < 0)) g h _ A0 [] W3 (HS.out.ext X3.out) rfl (enters_of Try.func47 (by kernel_rfl) rfl) ?_ ?_ ?_).mono ?_
  · intro W nd' hW hmem
    exact get1_any _ _ A n c sq _ k nd'.x W (hW.keeps _ _ _ CK.out) (hW.keeps _ _ _ CS.out) (HK.out.ext (X3.out.trans hW)) hnc hn ((HS.out.ext (X3.out.trans hW)).sk.rd nd' hmem)
  · intro a ha; exact decide_eq_true (HA.out a ha)
  · intro b hb; simp at hb
  rintro e w4 ⟨rfl, hw4⟩
  have X4 := Lib.hid (X3.out.trans hw4)
  have CR4 := Lib.hid (hw4.blk CR.out)
  clear hw4
  rw [show nx 0 ([] : List Nd) = .pointer none from rfl]
  go_wp2
  refine wp_region_held_drew (S := (fun w' => w'.cell? ⟨w.heap.size + 1 + 1, 0, none⟩ = some (.slice none 0 0) ∧ w'.cell? ⟨w.heap.size + 1 + 1, 1, none⟩ = some (.int .i64 0) ∧ w'.cell? ⟨w.heap.size + 1 + 1, 2, none⟩ = some (.int .i64 0) ∧ w'.cell? ⟨w.heap.size + 1 + 1, 3, none⟩ = some (.slice none 0 0) ∧ w'.frozen? ⟨w.heap.size + 1 + 1, 0, none⟩ = false ∧ w'.frozen? ⟨w.heap.size + 1 + 1, 1, none⟩ = false ∧ w'.frozen? ⟨w.heap.size + 1 + 1, 2, none⟩ = false ∧ w'.frozen? ⟨w.heap.size + 1 + 1, 3, none⟩ = false)) (by kernel_rfl) (by (try dsimp only); exact box4 CR4.out (by with_reducible (repeat (first | exact Ext.rfl_ _ | assumption | refine Ext.drew ?_ | refine Ext.drewN ?_ _ | refine Ext.alloc ?_ _ | refine Ext.trans ?_ (by assumption))))) (fun hHeld => ?_)
  refine wpAnyH_take (i := 0) (oi := ({ dst := some 20, op := Go.Op.move (Go.Operand.tmp 9), type := 63, pos := "skip.go:89", after := #[], guard := none } : Go.Oper)) (v := ?v1) rfl (by kernel_rfl) (by kernel_rfl) (by kernel_rfl) (fun _ _ _ h => h) (Or.inl ⟨by rfl, ?hy1⟩) (by assumption) ?rest1
  case hy1 => (intro w hSw; (try dsimp only at hSw); go_simp; (try with_reducible rfl))
  (try simp only [Act.put, List.getElem_toArray, List.getElem_cons_zero, List.getElem_cons_succ, List.setIfInBounds_toArray, List.set_cons_zero, List.set_cons_succ])
  refine wpAnyH_take (i := 1) (oi := ({ dst := some 21, op := Go.Op.binOp Go.BinOp.eql 63 (Go.Operand.tmp 20) (Go.Operand.const (Go.Value.pointer none)) 63, type := 4, pos := "skip.go:89", after := #[{ on := 0, ground := Go.Ground.data }], guard := none } : Go.Oper)) (v := ?v2) rfl (by kernel_rfl) (by kernel_rfl) (by kernel_rfl) (fun _ _ _ h => h) (Or.inl ⟨by rfl, ?hy2⟩) (by assumption) ?rest2
  case hy2 => (intro w hSw; (try dsimp only at hSw); go_simp; (try with_reducible rfl))
  (try simp only [Act.put, List.getElem_toArray, List.getElem_cons_zero, List.getElem_cons_succ, List.setIfInBounds_toArray, List.set_cons_zero, List.set_cons_succ])
  refine wpAnyH_take (i := 2) (oi := ({ dst := some 22, op := Go.Op.move (Go.Operand.tmp 21), type := 4, pos := "skip.go:89", after := #[{ on := 1, ground := Go.Ground.data }], guard := none } : Go.Oper)) (v := ?v3) rfl (by kernel_rfl) (by kernel_rfl) (by kernel_rfl) (fun _ _ _ h => h) (Or.inl ⟨by rfl, ?hy3⟩) (by assumption) ?rest3
  case hy3 => (intro w hSw; (try dsimp only at hSw); go_simp; (try with_reducible rfl))
  (try simp only [Act.put, List.getElem_toArray, List.getElem_cons_zero, List.getElem_cons_succ, List.setIfInBounds_toArray, List.set_cons_zero, List.set_cons_succ])
  refine wpAnyH_take (i := 3) (oi := ({ dst := some 23, op := Go.Op.move (Go.Operand.tmp 9), type := 63, pos := "skip.go:89", after := #[{ on := 2, ground := Go.Ground.guard }], guard := some (2, false) } : Go.Oper)) (v := undef) rfl (by kernel_rfl) (by kernel_rfl) (by kernel_rfl) (fun _ _ _ h => h) (Or.inr ⟨by rfl, rfl⟩) (by assumption) ?_
  (try simp only [Act.put, List.getElem_toArray, List.getElem_cons_zero, List.getElem_cons_succ, List.setIfInBounds_toArray, List.set_cons_zero, List.set_cons_succ])
  refine wpAnyH_take (i := 4) (oi := ({ dst := some 24, op := Go.Op.nilCheck (Go.Operand.tmp 23), type := 0, pos := "skip.go:89", after := #[{ on := 3, ground := Go.Ground.data }, { on := 2, ground := Go.Ground.guard }], guard := some (2, false) } : Go.Oper)) (v := undef) rfl (by kernel_rfl) (by kernel_rfl) (by kernel_rfl) (fun _ _ _ h => h) (Or.inr ⟨by rfl, rfl⟩) (by assumption) ?_
  (try simp only [Act.put, List.getElem_toArray, List.getElem_cons_zero, List.getElem_cons_succ, List.setIfInBounds_toArray, List.set_cons_zero, List.set_cons_succ])
  refine wpAnyH_take (i := 5) (oi := ({ dst := some 25, op := Go.Op.fieldAddr 79 (Go.Operand.tmp 24) 0, type := 0, pos := "skip.go:89", after := #[{ on := 4, ground := Go.Ground.data }, { on := 2, ground := Go.Ground.guard }], guard := some (2, false) } : Go.Oper)) (v := undef) rfl (by kernel_rfl) (by kernel_rfl) (by kernel_rfl) (fun _ _ _ h => h) (Or.inr ⟨by rfl, rfl⟩) (by assumption) ?_
  (try simp only [Act.put, List.getElem_toArray, List.getElem_cons_zero, List.getElem_cons_succ, List.setIfInBounds_toArray, List.set_cons_zero, List.set_cons_succ])
  refine wpAnyH_take (i := 6) (oi := ({ dst := some 26, op := Go.Op.fieldAddr 40 (Go.Operand.tmp 25) 0, type := 0, pos := "skip.go:89", after := #[{ on := 5, ground := Go.Ground.data }, { on := 2, ground := Go.Ground.guard }], guard := some (2, false) } : Go.Oper)) (v := undef) rfl (by kernel_rfl) (by kernel_rfl) (by kernel_rfl) (fun _ _ _ h => h) (Or.inr ⟨by rfl, rfl⟩) (by assumption) ?_
  (try simp only [Act.put, List.getElem_toArray, List.getElem_cons_zero, List.getElem_cons_succ, List.setIfInBounds_toArray, List.set_cons_zero, List.set_cons_succ])
  refine wpAnyH_take (i := 7) (oi := ({ dst := some 27, op := Go.Op.load 22 (Go.Operand.tmp 26), type := 22, pos := "skip.go:89", after := #[{ on := 6, ground := Go.Ground.data }, { on := 2, ground := Go.Ground.guard }], guard := some (2, false) } : Go.Oper)) (v := undef) rfl (by kernel_rfl) (by kernel_rfl) (by kernel_rfl) (fun _ _ _ h => h) (Or.inr ⟨by rfl, rfl⟩) (by assumption) ?_
  (try simp only [Act.put, List.getElem_toArray, List.getElem_cons_zero, List.getElem_cons_succ, List.setIfInBounds_toArray, List.set_cons_zero, List.set_cons_succ])
  refine wpAnyH_take (i := 8) (oi := ({ dst := some 28, op := Go.Op.load 22 (Go.Operand.tmp 4), type := 22, pos := "skip.go:89", after := #[{ on := 2, ground := Go.Ground.guard }], guard := some (2, false) } : Go.Oper)) (v := undef) rfl (by kernel_rfl) (by kernel_rfl) (by kernel_rfl) (fun _ _ _ h => h) (Or.inr ⟨by rfl, rfl⟩) (by assumption) ?_
  (try simp only [Act.put, List.getElem_toArray, List.getElem_cons_zero, List.getElem_cons_succ, List.setIfInBounds_toArray, List.set_cons_zero, List.set_cons_succ])
  refine wpAnyH_take (i := 9) (oi := ({ dst := some 29, op := Go.Op.call { callee := Go.Callee.value (Go.Operand.func 45), args := #[Go.Operand.tmp 27, Go.Operand.tmp 28], argTypes := #[22, 22] }, type := 3, pos := "skip.go:89", after := #[{ on := 7, ground := Go.Ground.data }, { on := 8, ground := Go.Ground.data }, { on := 2, ground := Go.Ground.chain }, { on := 2, ground := Go.Ground.guard }], guard := some (2, false) } : Go.Oper)) (v := undef) rfl (by kernel_rfl) (by kernel_rfl) (by kernel_rfl) (fun _ _ _ h => h) (Or.inr ⟨by rfl, rfl⟩) (by assumption) ?_
  (try simp only [Act.put, List.getElem_toArray, List.getElem_cons_zero, List.getElem_cons_succ, List.setIfInBounds_toArray, List.set_cons_zero, List.set_cons_succ])
  refine wpAnyH_take (i := 10) (oi := ({ dst := some 30, op := Go.Op.binOp Go.BinOp.neq 3 (Go.Operand.tmp 29) (Go.Operand.const (Go.Value.int Go.IntKind.i64 0)) 3, type := 4, pos := "skip.go:89", after := #[{ on := 9, ground := Go.Ground.data }, { on := 2, ground := Go.Ground.guard }], guard := some (2, false) } : Go.Oper)) (v := undef) rfl (by kernel_rfl) (by kernel_rfl) (by kernel_rfl) (fun _ _ _ h => h) (Or.inr ⟨by rfl, rfl⟩) (by assumption) ?_
  (try simp only [Act.put, List.getElem_toArray, List.getElem_cons_zero, List.getElem_cons_succ, List.setIfInBounds_toArray, List.set_cons_zero, List.set_cons_succ])
  refine wpAnyH_take (i := 11) (oi := ({ dst := some 31, op := Go.Op.pick (Go.Operand.tmp 22) (Go.Operand.const (Go.Value.bool true)) (Go.Operand.tmp 30), type := 4, pos := "skip.go:89", after := #[{ on := 2, ground := Go.Ground.data }, { on := 10, ground := Go.Ground.data }], guard := none } : Go.Oper)) (v := ?v4) rfl (by kernel_rfl) (by kernel_rfl) (by kernel_rfl) (fun _ _ _ h => h) (Or.inl ⟨by rfl, ?hy4⟩) (by assumption) ?rest4
  case hy4 => (intro w hSw; (try dsimp only at hSw); go_simp; (try with_reducible rfl))
  (try simp only [Act.put, List.getElem_toArray, List.getElem_cons_zero, List.getElem_cons_succ, List.setIfInBounds_toArray, List.set_cons_zero, List.set_cons_succ])
  refine wpAnyH_done (by kernel_rfl) ?_ _
  all_goals
    obtain ⟨r0, r1, r2, r3, f0, f1, f2, f3⟩ := box4 CR4.out (w' := (w4.alloc (.cells #[.pointer (some ⟨lst h 0 A0, 0, none⟩), .pointer (some ⟨lst h 1 A0, 0, none⟩), .pointer (some ⟨lst h 2 A0, 0, none⟩), .pointer (some ⟨lst h 3 A0, 0, none⟩), .pointer (some ⟨lst h 4 A0, 0, none⟩), .pointer (some ⟨lst h 5 A0, 0, none⟩), .pointer (some ⟨lst h 6 A0, 0, none⟩), .pointer (some ⟨lst h 7 A0, 0, none⟩)] 73))) (by with_reducible (repeat (first | exact Ext.rfl_ _ | assumption | refine Ext.drew ?_ | refine Ext.drewN ?_ _ | refine Ext.alloc ?_ _ | refine Ext.trans ?_ (by assumption))))
    go_wp2
    refine bodyPost_ret (v := .tuple #[.agg #[.slice none 0 0, .int .i64 0, .int .i64 0, .slice none 0 0], .int .i64 6]) ?_ rfl ?_
    · simp [results, Try.f20, go_sem, r0, r1, r2, r3]
    · have x4 : Ext w w4 := X4.out
      exact ⟨rfl, (by with_reducible (repeat (first | exact Ext.rfl_ _ | assumption | refine Ext.drew ?_ | refine Ext.drewN ?_ _ | refine Ext.alloc ?_ _ | refine Ext.setCell ?_ (by first | (simp; done) | (simp; omega)) _ | refine Ext.trans ?_ (by assumption))))⟩

set_option maxRecDepth 100000 in
set_option maxHeartbeats 4000000 in
theorem skget_other (g h : Nat) (A0 D : List Nd) (nd : Nd) (A : Option Addr) (n c : Nat) (k : Bs) (sq : Int) (w : World) (s : SkL w g h (A0 ++ nd :: D)) (hk : Rd w A n k) (hnc : n ≤ c) (hn : n ≤ B47) (ha : ∀ a ∈ A0, cmpE a.x ⟨k, sq, 0, []⟩ < 0) (hb : ∀ b ∈ nd :: D, ¬ cmpE b.x ⟨k, sq, 0, []⟩ < 0) (hkey : nd.x.key ≠ k) :
    Calls Try.prog 20 #[.pointer (some ⟨g, 0, none⟩), .slice A n c, .int .i64 sq] w fun e w' => e = .returned (.tuple #[.agg #[.slice none 0 0, .int .i64 0, .int .i64 0, .slice none 0 0], .int .i64 6]) ∧ Ext w w' := by
  have HS := Lib.hid s
  have HK := Lib.hid hk
  have HA := Lib.hid ha
  have HB := Lib.hid hb
  have HKE := Lib.hid hkey
  have h0 := cnewB w (.slice A n c) 22
  have h1 := cnewB (w.alloc (.cells #[.slice A n c] 22)) (.int .i64 sq) 2
  rw [World.size_alloc] at h1
  have h2 := blk1 ((w.alloc (.cells #[.slice A n c] 22)).alloc (.cells #[.int .i64 sq] 2)) (.cells #[.slice none 0 0, .int .i64 0, .int .i64 0, .slice none 0 0] 40)
  rw [World.size_alloc, World.size_alloc] at h2
  have HK0 := Lib.hid (show ((w.alloc (.cells #[.slice A n c] 22)).alloc (.cells #[.int .i64 sq] 2)).cell? ⟨w.heap.size, 0, none⟩ = some (.slice A n c) from (Ext.alloc (Ext.rfl_ _) _).keeps _ _ _ h0)
  have HS0 := Lib.hid h1
  have HR0 := Lib.hid h2
  clear s hk ha hb hkey h0 h1 h2
  go_enter Try.func20, Try.ntmps20
  go_wp2_with fail
  refine (there_any g h _ _ (HS.out.ext (by with_reducible (repeat (first | exact Ext.rfl_ _ | assumption | refine Ext.drew ?_ | refine Ext.drewN ?_ _ | refine Ext.alloc ?_ _ | refine Ext.trans ?_ (by assumption)))))).mono ?_
  rintro e w1 ⟨rfl, hw1⟩
  rw [hw1]
  obtain ⟨W3, hW3⟩ : ∃ W3, W3 = ((w.alloc (.cells #[.slice A n c] 22)).alloc (.cells #[.int .i64 sq] 2)).alloc (.cells #[.slice none 0 0, .int .i64 0, .int .i64 0, .slice none 0 0] 40) := ⟨_, rfl⟩
  have X3 := Lib.hid (show Ext w W3 by rw [hW3]; exact (by with_reducible (repeat (first | exact Ext.rfl_ _ | assumption | refine Ext.drew ?_ | refine Ext.drewN ?_ _ | refine Ext.alloc ?_ _ | refine Ext.trans ?_ (by assumption)))))
  have CK := Lib.hid (show W3.cell? ⟨w.heap.size, 0, none⟩ = some (.slice A n c) by rw [hW3]; exact (Ext.alloc (Ext.rfl_ _) _).keeps _ _ _ HK0.out)
  have CS := Lib.hid (show W3.cell? ⟨w.heap.size + 1, 0, none⟩ = some (.int .i64 sq) by rw [hW3]; exact (Ext.alloc (Ext.rfl_ _) _).keeps _ _ _ HS0.out)
  have CR := Lib.hid (show W3.heap[w.heap.size + 1 + 1]? = some (.cells #[.slice none 0 0, .int .i64 0, .int .i64 0, .slice none 0 0] 40 (0, 0)) by rw [hW3]; exact HR0.out)
  rw [← hW3]
  clear hw1 hW3
  go_wp2_with fail
  refine (search_any 47 #[.pointer (some ⟨w.heap.size, 0, none⟩), .pointer (some ⟨w.heap.size + 1, 0, none⟩)] (fun y => decide (cmpE y ⟨k, sq, 0, []⟩ < 0)) g h _ A0 (nd :: D) W3 (HS.out.ext X3.out) rfl (enters_of Try.func47 (by kernel_rfl) rfl) ?_ ?_ ?_).mono ?_
  · intro W nd' hW hmem
    exact get1_any _ _ A n c sq _ k nd'.x W (hW.keeps _ _ _ CK.out) (hW.keeps _ _ _ CS.out) (HK.out.ext (X3.out.trans hW)) hnc hn ((HS.out.ext (X3.out.trans hW)).sk.rd nd' hmem)
  · intro a ha; exact decide_eq_true (HA.out a ha)
  · intro b hb; exact decide_eq_false (by have := HB.out b hb; omega)
  rintro e w4 ⟨rfl, hw4⟩
  have X4 := Lib.hid (X3.out.trans hw4)
  have CR4 := Lib.hid (hw4.blk CR.out)
  have HW4 := Lib.hid hw4
  clear hw4
  have hnx : nx 0 (nd :: D) = .pointer (some ⟨nd.b, 0, none⟩) := if_pos (htH_le nd.x.key nd.x.seq).1
  rw [hnx]
  have HNODE := Lib.hid ((HS.out.ext X4.out).sk.node A0 nd D rfl)
  have HRD := Lib.hid ((HS.out.ext X4.out).sk.rd nd (by simp))
  have CK4 := Lib.hid (HW4.out.keeps _ _ _ CK.out)
  clear hnx
  go_wp2
  refine wp_region_held_drew (S := (fun w' => (w'.cell? ⟨nd.b, 0, none⟩ = some (.slice nd.h.A nd.h.n nd.h.c) ∧ w'.cell? ⟨nd.b, 1, none⟩ = some (.int .i64 nd.x.seq) ∧ w'.cell? ⟨nd.b, 2, none⟩ = some (.int .i64 nd.x.kind) ∧ w'.cell? ⟨nd.b, 3, none⟩ = some (.slice nd.h.B nd.h.m nd.h.d)) ∧ w'.cell? ⟨w.heap.size, 0, none⟩ = some (.slice A n c))) (by kernel_rfl) (by (try dsimp only); exact ⟨nod4 HNODE.out (by with_reducible (repeat (first | exact Ext.rfl_ _ | assumption | refine Ext.drew ?_ | refine Ext.drewN ?_ _ | refine Ext.alloc ?_ _ | refine Ext.trans ?_ (by assumption)))), (Ext.keeps (show Ext w4 _ from (by with_reducible (repeat (first | exact Ext.rfl_ _ | assumption | refine Ext.drew ?_ | refine Ext.drewN ?_ _ | refine Ext.alloc ?_ _ | refine Ext.trans ?_ (by assumption))))) _ _ _ CK4.out)⟩) (fun hHeld => ?_)
  refine wpAnyH_take (i := 0) (oi := ({ dst := some 20, op := Go.Op.move (Go.Operand.tmp 9), type := 63, pos := "skip.go:89", after := #[], guard := none } : Go.Oper)) (v := ?v5) rfl (by kernel_rfl) (by kernel_rfl) (by kernel_rfl) (fun _ _ _ h => h) (Or.inl ⟨by rfl, ?hy5⟩) (by assumption) ?rest5
  case hy5 => (intro w hSw; (try dsimp only at hSw); go_simp; (try with_reducible rfl))
  (try simp only [Act.put, List.getElem_toArray, List.getElem_cons_zero, List.getElem_cons_succ, List.setIfInBounds_toArray, List.set_cons_zero, List.set_cons_succ])
  refine wpAnyH_take (i := 1) (oi := ({ dst := some 21, op := Go.Op.binOp Go.BinOp.eql 63 (Go.Operand.tmp 20) (Go.Operand.const (Go.Value.pointer none)) 63, type := 4, pos := "skip.go:89", after := #[{ on := 0, ground := Go.Ground.data }], guard := none } : Go.Oper)) (v := ?v6) rfl (by kernel_rfl) (by kernel_rfl) (by kernel_rfl) (fun _ _ _ h => h) (Or.inl ⟨by rfl, ?hy6⟩) (by assumption) ?rest6
  case hy6 => (intro w hSw; (try dsimp only at hSw); go_simp; (try with_reducible rfl))
  (try simp only [Act.put, List.getElem_toArray, List.getElem_cons_zero, List.getElem_cons_succ, List.setIfInBounds_toArray, List.set_cons_zero, List.set_cons_succ])
  refine wpAnyH_take (i := 2) (oi := ({ dst := some 22, op := Go.Op.move (Go.Operand.tmp 21), type := 4, pos := "skip.go:89", after := #[{ on := 1, ground := Go.Ground.data }], guard := none } : Go.Oper)) (v := ?v7) rfl (by kernel_rfl) (by kernel_rfl) (by kernel_rfl) (fun _ _ _ h => h) (Or.inl ⟨by rfl, ?hy7⟩) (by assumption) ?rest7
  case hy7 => (intro w hSw; (try dsimp only at hSw); go_simp; (try with_reducible rfl))
  (try simp only [Act.put, List.getElem_toArray, List.getElem_cons_zero, List.getElem_cons_succ, List.setIfInBounds_toArray, List.set_cons_zero, List.set_cons_succ])
  refine wpAnyH_take (i := 3) (oi := ({ dst := some 23, op := Go.Op.move (Go.Operand.tmp 9), type := 63, pos := "skip.go:89", after := #[{ on := 2, ground := Go.Ground.guard }], guard := some (2, false) } : Go.Oper)) (v := ?v8) rfl (by kernel_rfl) (by kernel_rfl) (by kernel_rfl) (fun _ _ _ h => h) (Or.inl ⟨by rfl, ?hy8⟩) (by assumption) ?rest8
  case hy8 => (intro w hSw; (try dsimp only at hSw); go_simp; (try with_reducible rfl))
  (try simp only [Act.put, List.getElem_toArray, List.getElem_cons_zero, List.getElem_cons_succ, List.setIfInBounds_toArray, List.set_cons_zero, List.set_cons_succ])
  refine wpAnyH_take (i := 8) (oi := ({ dst := some 28, op := Go.Op.load 22 (Go.Operand.tmp 4), type := 22, pos := "skip.go:89", after := #[{ on := 2, ground := Go.Ground.guard }], guard := some (2, false) } : Go.Oper)) (v := ?v9) rfl (by kernel_rfl) (by kernel_rfl) (by kernel_rfl) (fun _ _ _ h => h) (Or.inl ⟨by rfl, ?hy9⟩) (by assumption) ?rest9
  case hy9 => (intro w hSw; (try dsimp only at hSw); go_simp; (try with_reducible rfl))
  (try simp only [Act.put, List.getElem_toArray, List.getElem_cons_zero, List.getElem_cons_succ, List.setIfInBounds_toArray, List.set_cons_zero, List.set_cons_succ])
  refine wpAnyH_ready (rs := [4]) (by kernel_rfl) (by simp) ?_
  refine AllReadyH.cons (o := ({ dst := some 24, op := Go.Op.nilCheck (Go.Operand.tmp 23), type := 0, pos := "skip.go:89", after := #[{ on := 3, ground := Go.Ground.data }, { on := 2, ground := Go.Ground.guard }], guard := some (2, false) } : Go.Oper)) rfl (fun K hK => ?_) AllReadyH.nil
  go_simp
  refine hK.out _ _ (by (try dsimp only); exact ⟨nod4 HNODE.out (by with_reducible (repeat (first | exact Ext.rfl_ _ | assumption | refine Ext.drew ?_ | refine Ext.drewN ?_ _ | refine Ext.alloc ?_ _ | refine Ext.trans ?_ (by assumption)))), (Ext.keeps (show Ext w4 _ from (by with_reducible (repeat (first | exact Ext.rfl_ _ | assumption | refine Ext.drew ?_ | refine Ext.drewN ?_ _ | refine Ext.alloc ?_ _ | refine Ext.trans ?_ (by assumption))))) _ _ _ CK4.out)⟩) (fun hHeld => ?_)
  clear hK K
  (try simp only [Act.put, List.getElem_toArray, List.getElem_cons_zero, List.getElem_cons_succ, List.setIfInBounds_toArray, List.set_cons_zero, List.set_cons_succ])
  refine wpAnyH_take (i := 5) (oi := ({ dst := some 25, op := Go.Op.fieldAddr 79 (Go.Operand.tmp 24) 0, type := 0, pos := "skip.go:89", after := #[{ on := 4, ground := Go.Ground.data }, { on := 2, ground := Go.Ground.guard }], guard := some (2, false) } : Go.Oper)) (v := ?v10) rfl (by kernel_rfl) (by kernel_rfl) (by kernel_rfl) (fun _ _ _ h => h) (Or.inl ⟨by rfl, ?hy10⟩) (by assumption) ?rest10
  case hy10 => (intro w hSw; (try dsimp only at hSw); go_simp; (try with_reducible rfl))
  (try simp only [Act.put, List.getElem_toArray, List.getElem_cons_zero, List.getElem_cons_succ, List.setIfInBounds_toArray, List.set_cons_zero, List.set_cons_succ])
  refine wpAnyH_take (i := 6) (oi := ({ dst := some 26, op := Go.Op.fieldAddr 40 (Go.Operand.tmp 25) 0, type := 0, pos := "skip.go:89", after := #[{ on := 5, ground := Go.Ground.data }, { on := 2, ground := Go.Ground.guard }], guard := some (2, false) } : Go.Oper)) (v := ?v11) rfl (by kernel_rfl) (by kernel_rfl) (by kernel_rfl) (fun _ _ _ h => h) (Or.inl ⟨by rfl, ?hy11⟩) (by assumption) ?rest11
  case hy11 => (intro w hSw; (try dsimp only at hSw); go_simp; (try with_reducible rfl))
  (try simp only [Act.put, List.getElem_toArray, List.getElem_cons_zero, List.getElem_cons_succ, List.setIfInBounds_toArray, List.set_cons_zero, List.set_cons_succ])
  refine wpAnyH_take (i := 7) (oi := ({ dst := some 27, op := Go.Op.load 22 (Go.Operand.tmp 26), type := 22, pos := "skip.go:89", after := #[{ on := 6, ground := Go.Ground.data }, { on := 2, ground := Go.Ground.guard }], guard := some (2, false) } : Go.Oper)) (v := ?v12) rfl (by kernel_rfl) (by kernel_rfl) (by kernel_rfl) (fun _ _ _ h => h) (Or.inl ⟨by rfl, ?hy12⟩) (by assumption) ?rest12
  case hy12 => (intro w hSw; (try dsimp only at hSw); go_simp; (try with_reducible rfl))
  (try simp only [Act.put, List.getElem_toArray, List.getElem_cons_zero, List.getElem_cons_succ, List.setIfInBounds_toArray, List.set_cons_zero, List.set_cons_succ])
  refine wpAnyH_ready (rs := [9]) (by kernel_rfl) (by simp) ?_
  refine AllReadyH.cons (o := ({ dst := some 29, op := Go.Op.call { callee := Go.Callee.value (Go.Operand.func 45), args := #[Go.Operand.tmp 27, Go.Operand.tmp 28], argTypes := #[22, 22] }, type := 3, pos := "skip.go:89", after := #[{ on := 7, ground := Go.Ground.data }, { on := 8, ground := Go.Ground.data }, { on := 2, ground := Go.Ground.chain }, { on := 2, ground := Go.Ground.guard }], guard := some (2, false) } : Go.Oper)) rfl (fun K hK => ?_) AllReadyH.nil
  go_simp
  refine (cmpKeys_any _ _ _ _ _ _ nd.x.key k _ (HRD.out.hdr.1.ext (by with_reducible (repeat (first | exact Ext.rfl_ _ | assumption | refine Ext.drew ?_ | refine Ext.drewN ?_ _ | refine Ext.alloc ?_ _ | refine Ext.trans ?_ (by assumption))))) (HK.out.ext (Ext.trans X4.out (by with_reducible (repeat (first | exact Ext.rfl_ _ | assumption | refine Ext.drew ?_ | refine Ext.drewN ?_ _ | refine Ext.alloc ?_ _ | refine Ext.trans ?_ (by assumption))))))).mono ?_; rintro e w5 ⟨rfl, rfl⟩; have hck : ¬ cmpK nd.x.key k = 0 := fun e => HKE.out ((cmpK_eq_zero _ _).1 e)
  (try (go_wp2_with fail))
  refine hK.out _ _ (by (try dsimp only); exact ⟨nod4 HNODE.out (by with_reducible (repeat (first | exact Ext.rfl_ _ | assumption | refine Ext.drew ?_ | refine Ext.drewN ?_ _ | refine Ext.alloc ?_ _ | refine Ext.trans ?_ (by assumption)))), (Ext.keeps (show Ext w4 _ from (by with_reducible (repeat (first | exact Ext.rfl_ _ | assumption | refine Ext.drew ?_ | refine Ext.drewN ?_ _ | refine Ext.alloc ?_ _ | refine Ext.trans ?_ (by assumption))))) _ _ _ CK4.out)⟩) (fun hHeld => ?_)
  clear hK K
  (try simp only [Act.put, List.getElem_toArray, List.getElem_cons_zero, List.getElem_cons_succ, List.setIfInBounds_toArray, List.set_cons_zero, List.set_cons_succ])
  refine wpAnyH_take (i := 10) (oi := ({ dst := some 30, op := Go.Op.binOp Go.BinOp.neq 3 (Go.Operand.tmp 29) (Go.Operand.const (Go.Value.int Go.IntKind.i64 0)) 3, type := 4, pos := "skip.go:89", after := #[{ on := 9, ground := Go.Ground.data }, { on := 2, ground := Go.Ground.guard }], guard := some (2, false) } : Go.Oper)) (v := ?v13) rfl (by kernel_rfl) (by kernel_rfl) (by kernel_rfl) (fun _ _ _ h => h) (Or.inl ⟨by rfl, ?hy13⟩) (by assumption) ?rest13
  case hy13 => (intro w hSw; (try dsimp only at hSw); go_simp; (try with_reducible rfl))
  (try simp only [Act.put, List.getElem_toArray, List.getElem_cons_zero, List.getElem_cons_succ, List.setIfInBounds_toArray, List.set_cons_zero, List.set_cons_succ])
  refine wpAnyH_take (i := 11) (oi := ({ dst := some 31, op := Go.Op.pick (Go.Operand.tmp 22) (Go.Operand.const (Go.Value.bool true)) (Go.Operand.tmp 30), type := 4, pos := "skip.go:89", after := #[{ on := 2, ground := Go.Ground.data }, { on := 10, ground := Go.Ground.data }], guard := none } : Go.Oper)) (v := ?v14) rfl (by kernel_rfl) (by kernel_rfl) (by kernel_rfl) (fun _ _ _ h => h) (Or.inl ⟨by rfl, ?hy14⟩) (by assumption) ?rest14
  case hy14 => (intro w hSw; (try dsimp only at hSw); go_simp; (try with_reducible rfl))
  (try simp only [Act.put, List.getElem_toArray, List.getElem_cons_zero, List.getElem_cons_succ, List.setIfInBounds_toArray, List.set_cons_zero, List.set_cons_succ])
  refine wpAnyH_done (by kernel_rfl) ?_ _
  all_goals
    obtain ⟨r0, r1, r2, r3, f0, f1, f2, f3⟩ := box4 CR4.out (w' := (w4.alloc (.cells #[.pointer (some ⟨lst h 0 A0, 0, none⟩), .pointer (some ⟨lst h 1 A0, 0, none⟩), .pointer (some ⟨lst h 2 A0, 0, none⟩), .pointer (some ⟨lst h 3 A0, 0, none⟩), .pointer (some ⟨lst h 4 A0, 0, none⟩), .pointer (some ⟨lst h 5 A0, 0, none⟩), .pointer (some ⟨lst h 6 A0, 0, none⟩), .pointer (some ⟨lst h 7 A0, 0, none⟩)] 73))) (by with_reducible (repeat (first | exact Ext.rfl_ _ | assumption | refine Ext.drew ?_ | refine Ext.drewN ?_ _ | refine Ext.alloc ?_ _ | refine Ext.trans ?_ (by assumption))))
    go_wp2
    refine bodyPost_ret (v := .tuple #[.agg #[.slice none 0 0, .int .i64 0, .int .i64 0, .slice none 0 0], .int .i64 6]) ?_ rfl ?_
    · simp [results, Try.f20, go_sem, r0, r1, r2, r3]
    · have x4 : Ext w w4 := X4.out
      exact ⟨rfl, (by with_reducible (repeat (first | exact Ext.rfl_ _ | assumption | refine Ext.drew ?_ | refine Ext.drewN ?_ _ | refine Ext.alloc ?_ _ | refine Ext.setCell ?_ (by first | (simp; done) | (simp; omega)) _ | refine Ext.trans ?_ (by assumption))))⟩

set_option maxRecDepth 100000 in
set_option maxHeartbeats 4000000 in
theorem skget_yes (g h : Nat) (A0 D : List Nd) (nd : Nd) (A : Option Addr) (n c : Nat) (k : Bs) (sq : Int) (w : World) (s : SkL w g h (A0 ++ nd :: D)) (hk : Rd w A n k) (hnc : n ≤ c) (hn : n ≤ B47) (ha : ∀ a ∈ A0, cmpE a.x ⟨k, sq, 0, []⟩ < 0) (hb : ∀ b ∈ nd :: D, ¬ cmpE b.x ⟨k, sq, 0, []⟩ < 0) (hkey : nd.x.key = k) :
    Calls Try.prog 20 #[.pointer (some ⟨g, 0, none⟩), .slice A n c, .int .i64 sq] w fun e w' => ∃ v, e = .returned (.tuple #[v, .int .i64 0]) ∧ FrE w' w.heap.size v nd.x ∧ Ext w w' := by
  have HS := Lib.hid s
  have HK := Lib.hid hk
  have HA := Lib.hid ha
  have HB := Lib.hid hb
  have HKE := Lib.hid hkey
  have h0 := cnewB w (.slice A n c) 22
  have h1 := cnewB (w.alloc (.cells #[.slice A n c] 22)) (.int .i64 sq) 2
  rw [World.size_alloc] at h1
  have h2 := blk1 ((w.alloc (.cells #[.slice A n c] 22)).alloc (.cells #[.int .i64 sq] 2)) (.cells #[.slice none 0 0, .int .i64 0, .int .i64 0, .slice none 0 0] 40)
  rw [World.size_alloc, World.size_alloc] at h2
  have HK0 := Lib.hid (show ((w.alloc (.cells #[.slice A n c] 22)).alloc (.cells #[.int .i64 sq] 2)).cell? ⟨w.heap.size, 0, none⟩ = some (.slice A n c) from (Ext.alloc (Ext.rfl_ _) _).keeps _ _ _ h0)
  have HS0 := Lib.hid h1
  have HR0 := Lib.hid h2
  clear s hk ha hb hkey h0 h1 h2
  go_enter Try.func20, Try.ntmps20
  go_wp2_with fail
  refine (there_any g h _ _ (HS.out.ext (by with_reducible (repeat (first | exact Ext.rfl_ _ | assumption | refine Ext.drew ?_ | refine Ext.drewN ?_ _ | refine Ext.alloc ?_ _ | refine Ext.trans ?_ (by assumption)))))).mono ?_
  rintro e w1 ⟨rfl, hw1⟩
  rw [hw1]
  obtain ⟨W3, hW3⟩ : ∃ W3, W3 = ((w.alloc (.cells #[.slice A n c] 22)).alloc (.cells #[.int .i64 sq] 2)).alloc (.cells #[.slice none 0 0, .int .i64 0, .int .i64 0, .slice none 0 0] 40) := ⟨_, rfl⟩
  have X3 := Lib.hid (show Ext w W3 by rw [hW3]; exact (by with_reducible (repeat (first | exact Ext.rfl_ _ | assumption | refine Ext.drew ?_ | refine Ext.drewN ?_ _ | refine Ext.alloc ?_ _ | refine Ext.trans ?_ (by assumption)))))
  have CK := Lib.hid (show W3.cell? ⟨w.heap.size, 0, none⟩ = some (.slice A n c) by rw [hW3]; exact (Ext.alloc (Ext.rfl_ _) _).keeps _ _ _ HK0.out)
  have CS := Lib.hid (show W3.cell? ⟨w.heap.size + 1, 0, none⟩ = some (.int .i64 sq) by rw [hW3]; exact (Ext.alloc (Ext.rfl_ _) _).keeps _ _ _ HS0.out)
  have CR := Lib.hid (show W3.heap[w.heap.size + 1 + 1]? = some (.cells #[.slice none 0 0, .int .i64 0, .int .i64 0, .slice none 0 0] 40 (0, 0)) by rw [hW3]; exact HR0.out)
  rw [← hW3]
  clear hw1 hW3
  go_wp2_with fail
  refine (search_any 47 #[.pointer (some ⟨w.heap.size, 0, none⟩), .pointer (some ⟨w.heap.size + 1, 0, none⟩)] (fun y => decide (cmpE y ⟨k, sq, 0, []⟩ < 0)) g h _ A0 (nd :: D) W3 (HS.out.ext X3.out) rfl (enters_of Try.func47 (by kernel_rfl) rfl) ?_ ?_ ?_).mono ?_
  · intro W nd' hW hmem
    exact get1_any _ _ A n c sq _ k nd'.x W (hW.keeps _ _ _ CK.out) (hW.keeps _ _ _ CS.out) (HK.out.ext (X3.out.trans hW)) hnc hn ((HS.out.ext (X3.out.trans hW)).sk.rd nd' hmem)
  · intro a ha; exact decide_eq_true (HA.out a ha)
  · intro b hb; exact decide_eq_false (by have := HB.out b hb; omega)
  rintro e w4 ⟨rfl, hw4⟩
  have X4 := Lib.hid (X3.out.trans hw4)
  have CR4 := Lib.hid (hw4.blk CR.out)
  have HW4 := Lib.hid hw4
  clear hw4
  have hnx : nx 0 (nd :: D) = .pointer (some ⟨nd.b, 0, none⟩) := if_pos (htH_le nd.x.key nd.x.seq).1
  rw [hnx]
  have HNODE := Lib.hid ((HS.out.ext X4.out).sk.node A0 nd D rfl)
  have HRD := Lib.hid ((HS.out.ext X4.out).sk.rd nd (by simp))
  have CK4 := Lib.hid (HW4.out.keeps _ _ _ CK.out)
  clear hnx
  go_wp2
  refine wp_region_held_drew (S := (fun w' => (w'.cell? ⟨nd.b, 0, none⟩ = some (.slice nd.h.A nd.h.n nd.h.c) ∧ w'.cell? ⟨nd.b, 1, none⟩ = some (.int .i64 nd.x.seq) ∧ w'.cell? ⟨nd.b, 2, none⟩ = some (.int .i64 nd.x.kind) ∧ w'.cell? ⟨nd.b, 3, none⟩ = some (.slice nd.h.B nd.h.m nd.h.d)) ∧ w'.cell? ⟨w.heap.size, 0, none⟩ = some (.slice A n c))) (by kernel_rfl) (by (try dsimp only); exact ⟨nod4 HNODE.out (by with_reducible (repeat (first | exact Ext.rfl_ _ | assumption | refine Ext.drew ?_ | refine Ext.drewN ?_ _ | refine Ext.alloc ?_ _ | refine Ext.trans ?_ (by assumption)))), (Ext.keeps (show Ext w4 _ from (by with_reducible (repeat (first | exact Ext.rfl_ _ | assumption | refine Ext.drew ?_ | refine Ext.drewN ?_ _ | refine Ext.alloc ?_ _ | refine Ext.trans ?_ (by assumption))))) _ _ _ CK4.out)⟩) (fun hHeld => ?_)
  refine wpAnyH_take (i := 0) (oi := ({ dst := some 20, op := Go.Op.move (Go.Operand.tmp 9), type := 63, pos := "skip.go:89", after := #[], guard := none } : Go.Oper)) (v := ?v15) rfl (by kernel_rfl) (by kernel_rfl) (by kernel_rfl) (fun _ _ _ h => h) (Or.inl ⟨by rfl, ?hy15⟩) (by assumption) ?rest15
  case hy15 => (intro w hSw; (try dsimp only at hSw); go_simp; (try with_reducible rfl))
  (try simp only [Act.put, List.getElem_toArray, List.getElem_cons_zero, List.getElem_cons_succ, List.setIfInBounds_toArray, List.set_cons_zero, List.set_cons_succ])
  refine wpAnyH_take (i := 1) (oi := ({ dst := some 21, op := Go.Op.binOp Go.BinOp.eql 63 (Go.Operand.tmp 20) (Go.Operand.const (Go.Value.pointer none)) 63, type := 4, pos := "skip.go:89", after := #[{ on := 0, ground := Go.Ground.data }], guard := none } : Go.Oper)) (v := ?v16) rfl (by kernel_rfl) (by kernel_rfl) (by kernel_rfl) (fun _ _ _ h => h) (Or.inl ⟨by rfl, ?hy16⟩) (by assumption) ?rest16
  case hy16 => (intro w hSw; (try dsimp only at hSw); go_simp; (try with_reducible rfl))
  (try simp only [Act.put, List.getElem_toArray, List.getElem_cons_zero, List.getElem_cons_succ, List.setIfInBounds_toArray, List.set_cons_zero, List.set_cons_succ])
  refine wpAnyH_take (i := 2) (oi := ({ dst := some 22, op := Go.Op.move (Go.Operand.tmp 21), type := 4, pos := "skip.go:89", after := #[{ on := 1, ground := Go.Ground.data }], guard := none } : Go.Oper)) (v := ?v17) rfl (by kernel_rfl) (by kernel_rfl) (by kernel_rfl) (fun _ _ _ h => h) (Or.inl ⟨by rfl, ?hy17⟩) (by assumption) ?rest17
  case hy17 => (intro w hSw; (try dsimp only at hSw); go_simp; (try with_reducible rfl))
  (try simp only [Act.put, List.getElem_toArray, List.getElem_cons_zero, List.getElem_cons_succ, List.setIfInBounds_toArray, List.set_cons_zero, List.set_cons_succ])
  refine wpAnyH_take (i := 3) (oi := ({ dst := some 23, op := Go.Op.move (Go.Operand.tmp 9), type := 63, pos := "skip.go:89", after := #[{ on := 2, ground := Go.Ground.guard }], guard := some (2, false) } : Go.Oper)) (v := ?v18) rfl (by kernel_rfl) (by kernel_rfl) (by kernel_rfl) (fun _ _ _ h => h) (Or.inl ⟨by rfl, ?hy18⟩) (by assumption) ?rest18
  case hy18 => (intro w hSw; (try dsimp only at hSw); go_simp; (try with_reducible rfl))
  (try simp only [Act.put, List.getElem_toArray, List.getElem_cons_zero, List.getElem_cons_succ, List.setIfInBounds_toArray, List.set_cons_zero, List.set_cons_succ])
  refine wpAnyH_take (i := 8) (oi := ({ dst := some 28, op := Go.Op.load 22 (Go.Operand.tmp 4), type := 22, pos := "skip.go:89", after := #[{ on := 2, ground := Go.Ground.guard }], guard := some (2, false) } : Go.Oper)) (v := ?v19) rfl (by kernel_rfl) (by kernel_rfl) (by kernel_rfl) (fun _ _ _ h => h) (Or.inl ⟨by rfl, ?hy19⟩) (by assumption) ?rest19
  case hy19 => (intro w hSw; (try dsimp only at hSw); go_simp; (try with_reducible rfl))
  (try simp only [Act.put, List.getElem_toArray, List.getElem_cons_zero, List.getElem_cons_succ, List.setIfInBounds_toArray, List.set_cons_zero, List.set_cons_succ])
  refine wpAnyH_ready (rs := [4]) (by kernel_rfl) (by simp) ?_
  refine AllReadyH.cons (o := ({ dst := some 24, op := Go.Op.nilCheck (Go.Operand.tmp 23), type := 0, pos := "skip.go:89", after := #[{ on := 3, ground := Go.Ground.data }, { on := 2, ground := Go.Ground.guard }], guard := some (2, false) } : Go.Oper)) rfl (fun K hK => ?_) AllReadyH.nil
  go_simp
  refine hK.out _ _ (by (try dsimp only); exact ⟨nod4 HNODE.out (by with_reducible (repeat (first | exact Ext.rfl_ _ | assumption | refine Ext.drew ?_ | refine Ext.drewN ?_ _ | refine Ext.alloc ?_ _ | refine Ext.trans ?_ (by assumption)))), (Ext.keeps (show Ext w4 _ from (by with_reducible (repeat (first | exact Ext.rfl_ _ | assumption | refine Ext.drew ?_ | refine Ext.drewN ?_ _ | refine Ext.alloc ?_ _ | refine Ext.trans ?_ (by assumption))))) _ _ _ CK4.out)⟩) (fun hHeld => ?_)
  clear hK K
  (try simp only [Act.put, List.getElem_toArray, List.getElem_cons_zero, List.getElem_cons_succ, List.setIfInBounds_toArray, List.set_cons_zero, List.set_cons_succ])
  refine wpAnyH_take (i := 5) (oi := ({ dst := some 25, op := Go.Op.fieldAddr 79 (Go.Operand.tmp 24) 0, type := 0, pos := "skip.go:89", after := #[{ on := 4, ground := Go.Ground.data }, { on := 2, ground := Go.Ground.guard }], guard := some (2, false) } : Go.Oper)) (v := ?v20) rfl (by kernel_rfl) (by kernel_rfl) (by kernel_rfl) (fun _ _ _ h => h) (Or.inl ⟨by rfl, ?hy20⟩) (by assumption) ?rest20
  case hy20 => (intro w hSw; (try dsimp only at hSw); go_simp; (try with_reducible rfl))
  (try simp only [Act.put, List.getElem_toArray, List.getElem_cons_zero, List.getElem_cons_succ, List.setIfInBounds_toArray, List.set_cons_zero, List.set_cons_succ])
  refine wpAnyH_take (i := 6) (oi := ({ dst := some 26, op := Go.Op.fieldAddr 40 (Go.Operand.tmp 25) 0, type := 0, pos := "skip.go:89", after := #[{ on := 5, ground := Go.Ground.data }, { on := 2, ground := Go.Ground.guard }], guard := some (2, false) } : Go.Oper)) (v := ?v21) rfl (by kernel_rfl) (by kernel_rfl) (by kernel_rfl) (fun _ _ _ h => h) (Or.inl ⟨by rfl, ?hy21⟩) (by assumption) ?rest21
  case hy21 => (intro w hSw; (try dsimp only at hSw); go_simp; (try with_reducible rfl))
  (try simp only [Act.put, List.getElem_toArray, List.getElem_cons_zero, List.getElem_cons_succ, List.setIfInBounds_toArray, List.set_cons_zero, List.set_cons_succ])
  refine wpAnyH_take (i := 7) (oi := ({ dst := some 27, op := Go.Op.load 22 (Go.Operand.tmp 26), type := 22, pos := "skip.go:89", after := #[{ on := 6, ground := Go.Ground.data }, { on := 2, ground := Go.Ground.guard }], guard := some (2, false) } : Go.Oper)) (v := ?v22) rfl (by kernel_rfl) (by kernel_rfl) (by kernel_rfl) (fun _ _ _ h => h) (Or.inl ⟨by rfl, ?hy22⟩) (by assumption) ?rest22
  case hy22 => (intro w hSw; (try dsimp only at hSw); go_simp; (try with_reducible rfl))
  (try simp only [Act.put, List.getElem_toArray, List.getElem_cons_zero, List.getElem_cons_succ, List.setIfInBounds_toArray, List.set_cons_zero, List.set_cons_succ])
  refine wpAnyH_ready (rs := [9]) (by kernel_rfl) (by simp) ?_
  refine AllReadyH.cons (o := ({ dst := some 29, op := Go.Op.call { callee := Go.Callee.value (Go.Operand.func 45), args := #[Go.Operand.tmp 27, Go.Operand.tmp 28], argTypes := #[22, 22] }, type := 3, pos := "skip.go:89", after := #[{ on := 7, ground := Go.Ground.data }, { on := 8, ground := Go.Ground.data }, { on := 2, ground := Go.Ground.chain }, { on := 2, ground := Go.Ground.guard }], guard := some (2, false) } : Go.Oper)) rfl (fun K hK => ?_) AllReadyH.nil
  go_simp
  refine (cmpKeys_any _ _ _ _ _ _ nd.x.key k _ (HRD.out.hdr.1.ext (by with_reducible (repeat (first | exact Ext.rfl_ _ | assumption | refine Ext.drew ?_ | refine Ext.drewN ?_ _ | refine Ext.alloc ?_ _ | refine Ext.trans ?_ (by assumption))))) (HK.out.ext (Ext.trans X4.out (by with_reducible (repeat (first | exact Ext.rfl_ _ | assumption | refine Ext.drew ?_ | refine Ext.drewN ?_ _ | refine Ext.alloc ?_ _ | refine Ext.trans ?_ (by assumption))))))).mono ?_; rintro e w5 ⟨rfl, rfl⟩; have hck : cmpK nd.x.key k = 0 := (cmpK_eq_zero _ _).2 HKE.out; rw [hck]
  (try (go_wp2_with fail))
  refine hK.out _ _ (by (try dsimp only); exact ⟨nod4 HNODE.out (by with_reducible (repeat (first | exact Ext.rfl_ _ | assumption | refine Ext.drew ?_ | refine Ext.drewN ?_ _ | refine Ext.alloc ?_ _ | refine Ext.trans ?_ (by assumption)))), (Ext.keeps (show Ext w4 _ from (by with_reducible (repeat (first | exact Ext.rfl_ _ | assumption | refine Ext.drew ?_ | refine Ext.drewN ?_ _ | refine Ext.alloc ?_ _ | refine Ext.trans ?_ (by assumption))))) _ _ _ CK4.out)⟩) (fun hHeld => ?_)
  clear hK K
  (try simp only [Act.put, List.getElem_toArray, List.getElem_cons_zero, List.getElem_cons_succ, List.setIfInBounds_toArray, List.set_cons_zero, List.set_cons_succ])
  refine wpAnyH_take (i := 10) (oi := ({ dst := some 30, op := Go.Op.binOp Go.BinOp.neq 3 (Go.Operand.tmp 29) (Go.Operand.const (Go.Value.int Go.IntKind.i64 0)) 3, type := 4, pos := "skip.go:89", after := #[{ on := 9, ground := Go.Ground.data }, { on := 2, ground := Go.Ground.guard }], guard := some (2, false) } : Go.Oper)) (v := ?v23) rfl (by kernel_rfl) (by kernel_rfl) (by kernel_rfl) (fun _ _ _ h => h) (Or.inl ⟨by rfl, ?hy23⟩) (by assumption) ?rest23
  case hy23 => (intro w hSw; (try dsimp only at hSw); go_simp; (try with_reducible rfl))
  (try simp only [Act.put, List.getElem_toArray, List.getElem_cons_zero, List.getElem_cons_succ, List.setIfInBounds_toArray, List.set_cons_zero, List.set_cons_succ])
  refine wpAnyH_take (i := 11) (oi := ({ dst := some 31, op := Go.Op.pick (Go.Operand.tmp 22) (Go.Operand.const (Go.Value.bool true)) (Go.Operand.tmp 30), type := 4, pos := "skip.go:89", after := #[{ on := 2, ground := Go.Ground.data }, { on := 10, ground := Go.Ground.data }], guard := none } : Go.Oper)) (v := ?v24) rfl (by kernel_rfl) (by kernel_rfl) (by kernel_rfl) (fun _ _ _ h => h) (Or.inl ⟨by rfl, ?hy24⟩) (by assumption) ?rest24
  case hy24 => (intro w hSw; (try dsimp only at hSw); go_simp; (try with_reducible rfl))
  (try simp only [Act.put, List.getElem_toArray, List.getElem_cons_zero, List.getElem_cons_succ, List.setIfInBounds_toArray, List.set_cons_zero, List.set_cons_succ])
  refine wpAnyH_done (by kernel_rfl) ?_ _
  all_goals
    obtain ⟨k0, k1, k2, k3⟩ := nod4 HNODE.out (w' := (w4.alloc (.cells #[.pointer (some ⟨lst h 0 A0, 0, none⟩), .pointer (some ⟨lst h 1 A0, 0, none⟩), .pointer (some ⟨lst h 2 A0, 0, none⟩), .pointer (some ⟨lst h 3 A0, 0, none⟩), .pointer (some ⟨lst h 4 A0, 0, none⟩), .pointer (some ⟨lst h 5 A0, 0, none⟩), .pointer (some ⟨lst h 6 A0, 0, none⟩), .pointer (some ⟨lst h 7 A0, 0, none⟩)] 73))) (by with_reducible (repeat (first | exact Ext.rfl_ _ | assumption | refine Ext.drew ?_ | refine Ext.drewN ?_ _ | refine Ext.alloc ?_ _ | refine Ext.trans ?_ (by assumption))))
    go_wp2_with fail
    refine (copyF_any _ nd.x _ (HRD.out.ext (by with_reducible (repeat (first | exact Ext.rfl_ _ | assumption | refine Ext.drew ?_ | refine Ext.drewN ?_ _ | refine Ext.alloc ?_ _ | refine Ext.trans ?_ (by assumption)))))).mono ?_
    rintro e w6 ⟨v6, rfl, hf6, hw6⟩
    have X46 := Lib.hid (show Ext w4 w6 from (by with_reducible (repeat (first | exact Ext.rfl_ _ | assumption | refine Ext.drew ?_ | refine Ext.drewN ?_ _ | refine Ext.alloc ?_ _ | refine Ext.trans ?_ (by assumption)))))
    have hsz : w.heap.size + 1 + 1 < w4.heap.size := (Array.getElem?_eq_some_iff.1 CR4.out).1
    obtain ⟨A6, n6, c6, B6, m6, d6, rfl, o1, o2, j1, j2, _, b1, _, b2, _, _⟩ := hf6
    have O1 := Lib.hid (o1.mono (base' := w4.heap.size) (by simp))
    have O2 := Lib.hid (o2.mono (base' := w4.heap.size) (by simp))
    have e1 : nd.x.key.length ≤ B47 := by rw [j1.1]; exact b1
    have e2 : nd.x.val.length ≤ B47 := by rw [j2.1]; exact b2
    obtain ⟨r0, r1, r2, r3, f0, f1, f2, f3⟩ := box4 CR4.out (w' := w6) X46.out
    clear o1 o2 j1 j2 hw6 k0 k1 k2 k3 b1 b2
    go_wp2
    refine bodyPost_ret (v := .tuple #[.agg #[.slice A6 n6 c6, .int .i64 nd.x.seq, .int .i64 nd.x.kind, .slice B6 m6 d6], .int .i64 0]) ?_ rfl ?_
    · simp [results, Try.f20, go_sem, r0, r1, r2, r3]
    · have hww : w.heap.size ≤ w4.heap.size := by omega
      refine ⟨_, rfl, FrE.mk_ ?_ ?_ rfl rfl e1 e2, ?_⟩
      · refine OwnB.mono (base := w4.heap.size) ?_ hww
        exact (by with_reducible (repeat (first | exact O1.out | refine OwnB.setLow ?_ (by first | (simp; done) | (simp; omega)) _ | refine OwnB.ext ?_ (by assumption))))
      · refine OwnB.mono (base := w4.heap.size) ?_ hww
        exact (by with_reducible (repeat (first | exact O2.out | refine OwnB.setLow ?_ (by first | (simp; done) | (simp; omega)) _ | refine OwnB.ext ?_ (by assumption))))
      · have x6 : Ext w w6 := X4.out.trans X46.out
        exact (by with_reducible (repeat (first | exact Ext.rfl_ _ | assumption | refine Ext.drew ?_ | refine Ext.drewN ?_ _ | refine Ext.alloc ?_ _ | refine Ext.setCell ?_ (by first | (simp; done) | (simp; omega)) _ | refine Ext.trans ?_ (by assumption))))

end Go.Proofs.Ytddaagldelcbeaa
