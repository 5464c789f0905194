/- IkeyBounds: plain facts on its memory. Conditions: none. -/
import Derived.Test.YtpohmoakilioiaaRising
import Derived.Test.YtpohmoakilioiaaBackM
import Derived.Test.YtpohmoakilioiaaWMay
import Derived.Laws.MakeOwn
import Derived.Deep.Heap
namespace Go.Proofs.Ytpohmoakilioiaa
set_option linter.unusedSimpArgs false
set_option linter.unusedVariables false
open Go.RowKit

theorem run_makeB (n : Nat) (hn : n ≤ 1000000) (w : World) :
    (Instr.makeSlice 22 (.int .i64 (n : Int)) (.int .i64 (n : Int))).run Try.prog w = .ok (.slice (some ⟨w.heap.size, 0, none⟩) n n) (w.alloc (.cells (madeCells #[.int .u8 0] n) 5)) := by
  obtain ⟨i0, hi, hz0, hz1, hz2⟩ := info_parts Try.info5x
  have hr := run_make (P := Try.prog) w 22 5 i0 (.int .u8 0) Try.underlying22 hi hz0 .i64 .i64 n n (by omega) (by omega) (by rw [hz2]; omega) (by omega)
  simp only [Int.toNat_natCast, hz1, Nat.mul_one] at hr
  exact hr
theorem rd_made (w : World) (n : Nat) : Rd (w.alloc (.cells (madeCells #[.int .u8 0] n) 5)) (some ⟨w.heap.size, 0, none⟩) n (List.replicate n 0) := by
  refine ⟨by simp, fun h => ⟨w.heap.size, 0, rfl, fun j hj => ?_⟩⟩
  have h := heap_alloc_new w (.cells (madeCells #[.int .u8 0] n) 5)
  unfold World.cell?
  simp only [h]
  simp at hj
  simp [madeCells, hj, Nat.mod_one]

theorem rd_made2 (w : World) (o : Obj) (n : Nat) : Rd ((w.alloc o).alloc (.cells (madeCells #[.int .u8 0] n) 5)) (some ⟨w.heap.size + 1, 0, none⟩) n (List.replicate n 0) := by
  have := rd_made (w.alloc o) n
  rwa [World.size_alloc] at this
theorem heap_set4 {w : World} {g : Nat} {cs : Array Value} {t : TypeId} {fr : Nat × Nat} (h : w.heap[g]? = some (.cells cs t fr)) (j : Nat) (u : Value) : (w.setCell ⟨g, j, none⟩ u).heap[g]? = some (.cells (cs.setIfInBounds j u) t fr) := by
  simp [World.setCell, h, Array.getElem?_modify]

/-- The object of the bounding entry. -/
def aObj (g1 g2 : Nat) : Obj := .cells #[.slice (some ⟨g1, 0, none⟩) 32 33, .int .i64 2147483647, .int .i64 1, .slice (some ⟨g2, 0, none⟩) 65536 65537] 25
structure Four (w wx : World) (o : Obj) (b4 b5 b6 b7 : Nat) : Prop where
  h4 : wx.heap[b4]? = some o
  h5 : wx.heap[b5]? = some o
  h6 : wx.heap[b6]? = some o
  h7 : wx.heap[b7]? = some o
  n45 : b4 ≠ b5
  n46 : b4 ≠ b6
  n47 : b4 ≠ b7
  n56 : b5 ≠ b6
  n57 : b5 ≠ b7
  n67 : b6 ≠ b7
  l4 : w.heap.size ≤ b4
  l5 : w.heap.size ≤ b5
  l6 : w.heap.size ≤ b6
  l7 : w.heap.size ≤ b7
  ext : Ext w wx
theorem four_new (w : World) (o : Obj) (b4 b5 b6 b7 : Nat) (l4 : w.heap.size ≤ b4) (l5 : w.heap.size ≤ b5) (l6 : w.heap.size ≤ b6) (l7 : w.heap.size ≤ b7) (u4 : b4 < w.heap.size + 4) (u5 : b5 < w.heap.size + 4) (u6 : b6 < w.heap.size + 4) (u7 : b7 < w.heap.size + 4)
    (n45 : b4 ≠ b5) (n46 : b4 ≠ b6) (n47 : b4 ≠ b7) (n56 : b5 ≠ b6) (n57 : b5 ≠ b7) (n67 : b6 ≠ b7) : Four w ((((w.alloc o).alloc o).alloc o).alloc o).drew o b4 b5 b6 b7 := by
  have all : ∀ b, w.heap.size ≤ b → b < w.heap.size + 4 → ((((w.alloc o).alloc o).alloc o).alloc o).drew.heap[b]? = some o := by
    intro b h1 h2
    show ((((w.heap.push o).push o).push o).push o)[b]? = some o
    simp only [Array.getElem?_push, Array.size_push]
    split
    · rfl
    · split
      · rfl
      · split
        · rfl
        · rw [if_pos (by omega)]
  exact ⟨all _ l4 u4, all _ l5 u5, all _ l6 u6, all _ l7 u7, n45, n46, n47, n56, n57, n67, l4, l5, l6, l7, (((((Ext.rfl_ _).alloc _).alloc _).alloc _).alloc _).drew⟩


abbrev eObj (u0 u1 u2 u3 : Value) : Obj := .cells #[u0, u1, u2, u3] 25
structure Set4 (w wx wy : World) (g1 g2 g3 b4 b5 b6 b7 : Nat) : Prop where
  h3 : wy.heap[g3]? = some (aObj g1 g2)
  h4 : wy.heap[b4]? = some (eObj (.slice (some ⟨g1, 0, none⟩) 33 33) (.int .i64 2147483647) (.int .i64 1) (.slice (some ⟨g2, 0, none⟩) 65536 65537))
  h5 : wy.heap[b5]? = some (eObj (.slice (some ⟨g1, 0, none⟩) 32 33) (.int .i64 2147483647) (.int .i64 1) (.slice (some ⟨g2, 0, none⟩) 65537 65537))
  h6 : wy.heap[b6]? = some (eObj (.slice (some ⟨g1, 0, none⟩) 32 33) (.int .i64 2147483648) (.int .i64 1) (.slice (some ⟨g2, 0, none⟩) 65536 65537))
  h7 : wy.heap[b7]? = some (eObj (.slice (some ⟨g1, 0, none⟩) 32 33) (.int .i64 2147483647) (.int .i64 3) (.slice (some ⟨g2, 0, none⟩) 65536 65537))
  ext : Ext w wy
theorem set4_ok {w wx : World} {g1 g2 g3 b4 b5 b6 b7 : Nat} (F : Four w wx (aObj g1 g2) b4 b5 b6 b7) (hg : w.heap[g3]? = some (aObj g1 g2)) :
    (wx.cell? ⟨b4, 0, none⟩ = some (.slice (some ⟨g1, 0, none⟩) 32 33) ∧ wx.frozen? ⟨b4, 0, none⟩ = false) ∧
    ((wx.setCell ⟨b4, 0, none⟩ (.slice (some ⟨g1, 0, none⟩) 33 33)).cell? ⟨b5, 3, none⟩ = some (.slice (some ⟨g2, 0, none⟩) 65536 65537) ∧ (wx.setCell ⟨b4, 0, none⟩ (.slice (some ⟨g1, 0, none⟩) 33 33)).frozen? ⟨b5, 3, none⟩ = false) ∧
    (((wx.setCell ⟨b4, 0, none⟩ (.slice (some ⟨g1, 0, none⟩) 33 33)).setCell ⟨b5, 3, none⟩ (.slice (some ⟨g2, 0, none⟩) 65537 65537)).cell? ⟨b6, 1, none⟩ = some (.int .i64 2147483647) ∧ ((wx.setCell ⟨b4, 0, none⟩ (.slice (some ⟨g1, 0, none⟩) 33 33)).setCell ⟨b5, 3, none⟩ (.slice (some ⟨g2, 0, none⟩) 65537 65537)).frozen? ⟨b6, 1, none⟩ = false) ∧
    ((((wx.setCell ⟨b4, 0, none⟩ (.slice (some ⟨g1, 0, none⟩) 33 33)).setCell ⟨b5, 3, none⟩ (.slice (some ⟨g2, 0, none⟩) 65537 65537)).setCell ⟨b6, 1, none⟩ (.int .i64 2147483648)).cell? ⟨b7, 2, none⟩ = some (.int .i64 1) ∧ (((wx.setCell ⟨b4, 0, none⟩ (.slice (some ⟨g1, 0, none⟩) 33 33)).setCell ⟨b5, 3, none⟩ (.slice (some ⟨g2, 0, none⟩) 65537 65537)).setCell ⟨b6, 1, none⟩ (.int .i64 2147483648)).frozen? ⟨b7, 2, none⟩ = false) ∧
    Set4 w wx ((((wx.setCell ⟨b4, 0, none⟩ (.slice (some ⟨g1, 0, none⟩) 33 33)).setCell ⟨b5, 3, none⟩ (.slice (some ⟨g2, 0, none⟩) 65537 65537)).setCell ⟨b6, 1, none⟩ (.int .i64 2147483648)).setCell ⟨b7, 2, none⟩ (.int .i64 3)) g1 g2 g3 b4 b5 b6 b7 := by
  have h3lt := (Array.getElem?_eq_some_iff.1 hg).1
  have h3 := ((Ext.below F.ext).block _ h3lt).trans hg
  obtain ⟨h4, h5, h6, h7, n45, n46, n47, n56, n57, n67, l4, l5, l6, l7, hx⟩ := F
  have O := @Go.Deep.blk_setCell_other
  have e1 : ∃ W, W = wx.setCell ⟨b4, 0, none⟩ (.slice (some ⟨g1, 0, none⟩) 33 33) := ⟨_, rfl⟩
  obtain ⟨W1, e1⟩ := e1
  rw [← e1]
  have i4 : W1.heap[b4]? = _ := (congrArg (fun z : World => z.heap[b4]?) e1).trans (heap_set4 h4 0 _)
  have i5 : W1.heap[b5]? = _ := (congrArg (fun z : World => z.heap[b5]?) e1).trans ((O _ _ _ _ (by dsimp only; omega)).trans h5)
  have i6 : W1.heap[b6]? = _ := (congrArg (fun z : World => z.heap[b6]?) e1).trans ((O _ _ _ _ (by dsimp only; omega)).trans h6)
  have i7 : W1.heap[b7]? = _ := (congrArg (fun z : World => z.heap[b7]?) e1).trans ((O _ _ _ _ (by dsimp only; omega)).trans h7)
  have i3 : W1.heap[g3]? = _ := (congrArg (fun z : World => z.heap[g3]?) e1).trans ((O _ _ _ _ (by dsimp only; omega)).trans h3)
  have ix : Ext w W1 := by rw [e1]; exact hx.setCell l4 _
  have e2 : ∃ W, W = W1.setCell ⟨b5, 3, none⟩ (.slice (some ⟨g2, 0, none⟩) 65537 65537) := ⟨_, rfl⟩
  obtain ⟨W2, e2⟩ := e2
  rw [← e2]
  have j5 : W2.heap[b5]? = _ := (congrArg (fun z : World => z.heap[b5]?) e2).trans (heap_set4 i5 3 _)
  have j4 : W2.heap[b4]? = _ := (congrArg (fun z : World => z.heap[b4]?) e2).trans ((O _ _ _ _ (by dsimp only; omega)).trans i4)
  have j6 : W2.heap[b6]? = _ := (congrArg (fun z : World => z.heap[b6]?) e2).trans ((O _ _ _ _ (by dsimp only; omega)).trans i6)
  have j7 : W2.heap[b7]? = _ := (congrArg (fun z : World => z.heap[b7]?) e2).trans ((O _ _ _ _ (by dsimp only; omega)).trans i7)
  have j3 : W2.heap[g3]? = _ := (congrArg (fun z : World => z.heap[g3]?) e2).trans ((O _ _ _ _ (by dsimp only; omega)).trans i3)
  have jx : Ext w W2 := by rw [e2]; exact ix.setCell l5 _
  have e3 : ∃ W, W = W2.setCell ⟨b6, 1, none⟩ (.int .i64 2147483648) := ⟨_, rfl⟩
  obtain ⟨W3, e3⟩ := e3
  rw [← e3]
  have k6 : W3.heap[b6]? = _ := (congrArg (fun z : World => z.heap[b6]?) e3).trans (heap_set4 j6 1 _)
  have k4 : W3.heap[b4]? = _ := (congrArg (fun z : World => z.heap[b4]?) e3).trans ((O _ _ _ _ (by dsimp only; omega)).trans j4)
  have k5 : W3.heap[b5]? = _ := (congrArg (fun z : World => z.heap[b5]?) e3).trans ((O _ _ _ _ (by dsimp only; omega)).trans j5)
  have k7 : W3.heap[b7]? = _ := (congrArg (fun z : World => z.heap[b7]?) e3).trans ((O _ _ _ _ (by dsimp only; omega)).trans j7)
  have k3 : W3.heap[g3]? = _ := (congrArg (fun z : World => z.heap[g3]?) e3).trans ((O _ _ _ _ (by dsimp only; omega)).trans j3)
  have kx : Ext w W3 := by rw [e3]; exact jx.setCell l6 _
  have e4 : ∃ W, W = W3.setCell ⟨b7, 2, none⟩ (.int .i64 3) := ⟨_, rfl⟩
  obtain ⟨W4, e4⟩ := e4
  rw [← e4]
  have m7 : W4.heap[b7]? = _ := (congrArg (fun z : World => z.heap[b7]?) e4).trans (heap_set4 k7 2 _)
  have m4 : W4.heap[b4]? = _ := (congrArg (fun z : World => z.heap[b4]?) e4).trans ((O _ _ _ _ (by dsimp only; omega)).trans k4)
  have m5 : W4.heap[b5]? = _ := (congrArg (fun z : World => z.heap[b5]?) e4).trans ((O _ _ _ _ (by dsimp only; omega)).trans k5)
  have m6 : W4.heap[b6]? = _ := (congrArg (fun z : World => z.heap[b6]?) e4).trans ((O _ _ _ _ (by dsimp only; omega)).trans k6)
  have m3 : W4.heap[g3]? = _ := (congrArg (fun z : World => z.heap[g3]?) e4).trans ((O _ _ _ _ (by dsimp only; omega)).trans k3)
  have mx : Ext w W4 := by rw [e4]; exact kx.setCell l7 _
  refine ⟨?_, ?_, ?_, ?_, ⟨m3, m4, m5, m6, m7, mx⟩⟩
  · simp [World.cell?, World.frozen?, h4, aObj]
  · simp [World.cell?, World.frozen?, i5, aObj]
  · simp [World.cell?, World.frozen?, j6, aObj]
  · simp [World.cell?, World.frozen?, k7, aObj]

structure Two (w wx : World) (o : Obj) (b8 b9 : Nat) : Prop where
  h8 : wx.heap[b8]? = some o
  h9 : wx.heap[b9]? = some o
  n89 : b8 ≠ b9
  l8 : w.heap.size ≤ b8
  l9 : w.heap.size ≤ b9
  ext : Ext w wx
theorem two_newB (w : World) (o : Obj) (b8 b9 : Nat) (l8 : w.heap.size ≤ b8) (l9 : w.heap.size ≤ b9) (u8 : b8 < w.heap.size + 2) (u9 : b9 < w.heap.size + 2) (n89 : b8 ≠ b9) : Two w ((w.alloc o).alloc o).drew o b8 b9 := by
  have all : ∀ b, w.heap.size ≤ b → b < w.heap.size + 2 → ((w.alloc o).alloc o).drew.heap[b]? = some o := by
    intro b h1 h2
    show ((w.heap.push o).push o)[b]? = some o
    simp only [Array.getElem?_push, Array.size_push]
    split
    · rfl
    · rw [if_pos (by omega)]
  exact ⟨all _ l8 u8, all _ l9 u9, n89, l8, l9, (((Ext.rfl_ _).alloc _).alloc _).drew⟩
structure Set2 (w wy : World) (g1 g2 b8 b9 : Nat) : Prop where
  h8 : wy.heap[b8]? = some (eObj (.slice none 0 0) (.int .i64 2147483647) (.int .i64 1) (.slice (some ⟨g2, 0, none⟩) 65536 65537))
  h9 : wy.heap[b9]? = some (eObj (.slice (some ⟨g1, 0, none⟩) 32 33) (.int .i64 0) (.int .i64 1) (.slice (some ⟨g2, 0, none⟩) 65536 65537))
  ext : Ext w wy
theorem set2_ok {w wx : World} {g1 g2 b8 b9 : Nat} (F : Two w wx (aObj g1 g2) b8 b9) :
    (wx.cell? ⟨b8, 0, none⟩ = some (.slice (some ⟨g1, 0, none⟩) 32 33) ∧ wx.frozen? ⟨b8, 0, none⟩ = false) ∧
    ((wx.setCell ⟨b8, 0, none⟩ (.slice none 0 0)).cell? ⟨b9, 1, none⟩ = some (.int .i64 2147483647) ∧ (wx.setCell ⟨b8, 0, none⟩ (.slice none 0 0)).frozen? ⟨b9, 1, none⟩ = false) ∧
    Set2 w ((wx.setCell ⟨b8, 0, none⟩ (.slice none 0 0)).setCell ⟨b9, 1, none⟩ (.int .i64 0)) g1 g2 b8 b9 := by
  obtain ⟨h8, h9, n89, l8, l9, hx⟩ := F
  have O := @Go.Deep.blk_setCell_other
  have e1 : ∃ W, W = wx.setCell ⟨b8, 0, none⟩ (.slice none 0 0) := ⟨_, rfl⟩
  obtain ⟨W1, e1⟩ := e1
  rw [← e1]
  have i8 : W1.heap[b8]? = _ := (congrArg (fun z : World => z.heap[b8]?) e1).trans (heap_set4 h8 0 _)
  have i9 : W1.heap[b9]? = _ := (congrArg (fun z : World => z.heap[b9]?) e1).trans ((O _ _ _ _ (by dsimp only; omega)).trans h9)
  have ix : Ext w W1 := by rw [e1]; exact hx.setCell l8 _
  have e2 : ∃ W, W = W1.setCell ⟨b9, 1, none⟩ (.int .i64 0) := ⟨_, rfl⟩
  obtain ⟨W2, e2⟩ := e2
  rw [← e2]
  have j9 : W2.heap[b9]? = _ := (congrArg (fun z : World => z.heap[b9]?) e2).trans (heap_set4 i9 1 _)
  have j8 : W2.heap[b8]? = _ := (congrArg (fun z : World => z.heap[b8]?) e2).trans ((O _ _ _ _ (by dsimp only; omega)).trans i8)
  have jx : Ext w W2 := by rw [e2]; exact ix.setCell l9 _
  refine ⟨?_, ?_, ⟨j8, j9, jx⟩⟩
  · simp [World.cell?, World.frozen?, h8, aObj]
  · simp [World.cell?, World.frozen?, i9, aObj]

end Go.Proofs.Ytpohmoakilioiaa
