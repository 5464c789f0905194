/- The walk of IkeyCopies. Conditions: the entry reads. -/
import Derived.Test.YtpohmoakilioiaaCopyF
import Derived.Test.YtpohmoakilioiaaLawL
import Derived.Test.YtpohmoakilioiaaKnown
import Derived.StillTailTactics
import Derived.OneCell
namespace Go.Proofs.Ytpohmoakilioiaa
set_option linter.unusedSimpArgs false
set_option linter.unusedVariables false
open Go.RowKit

/-- The value owns some bytes, from block 'base' on. -/
def OwnS (w : World) (base : Nat) (v : Value) : Prop := ∃ y, OwnB w base v y
theorem OwnB.s {w : World} {base : Nat} {v : Value} {y : Bs} (h : OwnB w base v y) : OwnS w base v := ⟨y, h⟩
theorem OwnS.set {w : World} {base g j : Nat} {v : Value} (h : OwnS w base v) (b : UInt8) (u : Value) (hu : u = .int .u8 (b.toNat : Int)) : OwnS (w.setCell ⟨g, j, none⟩ u) base v := by
  obtain ⟨y, h⟩ := h
  have hO := h
  rcases h.out.2 with ⟨rfl, h0⟩ | ⟨g', cap, cur, rfl, hb, hg, _⟩
  · obtain rfl : y = [] := List.eq_nil_of_length_eq_zero h0
    exact ⟨[], OwnB.nil _ _⟩
  · by_cases e : g' = g
    · subst e
      exact ⟨_, hO.setB j b u hu⟩
    · exact ⟨y, ownsRow_setCell_other h.out (by simp [Value.ownBlock]; exact e) u⟩
theorem OwnS.ext {w w' : World} {base : Nat} {v : Value} (h : OwnS w base v) (hx : Ext w w') : OwnS w' base v := by
  obtain ⟨y, h⟩ := h; exact ⟨y, h.ext hx⟩
/-- A byte of it. -/
theorem OwnS.at_ {w : World} {base n c k : Nat} {A : Option Addr} (h : OwnS w base (.slice A n c)) (hk : k < n) :
    ∃ g b cs fr, A = some ⟨g, 0, none⟩ ∧ base ≤ g ∧ w.cell? ⟨g, k, none⟩ = some (.int .u8 ((b : UInt8).toNat : Int)) ∧ w.frozen? ⟨g, k, none⟩ = false ∧ w.heap[g]? = some (.cells cs 5 fr) := by
  obtain ⟨y, h⟩ := h
  have hO := h
  rcases h.out.2 with ⟨hv, h0⟩ | ⟨g', cap, cur, hv, hb, hg, _⟩
  · cases hv; omega
  · cases hv
    obtain ⟨h1, h2, h3⟩ := hO.cellB k hk
    exact ⟨g', y[k], _, _, rfl, h3, h1, h2, hg⟩

/-- A block behind writes into a block of bytes. -/
theorem blk_row {w w' : World} {g : Nat} {o : Obj} {row : Option Nat} (hb : w.heap[g]? = some o) (hg : w.grownBy w' row) (hne : row ≠ some g) : w'.heap[g]? = some o :=
  (hg.block g (Array.getElem?_eq_some_iff.1 hb).1 (fun e => hne e.symm)).trans hb
theorem grownBy_set {w w' : World} {g : Nat} (h : w.grownBy w' (some g)) (j : Nat) (u : Value) : w.grownBy (w'.setCell ⟨g, j, none⟩ u) (some g) :=
  ⟨h.os, h.tape, h.output, by simpa [World.setCell] using h.size, fun k hk hne => (Below.heap_setCell _ _ _ _ (fun e => hne (by rw [e]))).trans (h.block k hk hne)⟩
theorem grownBy_drew {w w' : World} {row : Option Nat} (h : w.grownBy w' row) : w.grownBy w'.drew row := ⟨h.os, h.tape, h.output, h.size, h.block⟩

theorem xor1 : ∀ b : UInt8, ∃ b' : UInt8, bits .xor .u8 (b.toNat : Int) 1 = (b'.toNat : Int) := by
  intro b
  have h : ∀ k : Fin 256, bits .xor .u8 ((k.val : Nat) : Int) 1 = ((UInt8.ofNat (k.val ^^^ 1)).toNat : Int) := by decide +kernel
  exact ⟨_, h ⟨b.toNat, b.toNat_lt⟩⟩

theorem same_self (u v : Value) (x : Ent) (w : World) (hx : RdE w u x) (hy : RdE w v x) :
    Calls Try.prog 30 #[u, v] w fun e w' => e = .returned (.bool true) ∧ Ext w w' := by
  have := same_any u v x x w hx hy
  simpa using this

set_option maxRecDepth 100000 in
set_option maxHeartbeats 4000000 in
theorem copies_walk (v : Value) (x : Ent) (w : World) (hx : RdE w v x) :
    Calls Try.prog 8 #[v] w fun e w' => e = .returned (.bool true) ∧ Ext w w' := by
  have HX := Lib.hid hx
  obtain ⟨A, n, c, A', n', c', rfl, _⟩ := hx
  have hb := blk1 w (.cells #[.slice A n c, .int .i64 x.seq, .int .i64 x.kind, .slice A' n' c'] 25)
  have HB := Lib.hid hb
  clear hb
  by_cases l1 : longE x = true
  · go_enter Try.func8, Try.ntmps8
    go_wp2_with fail
    refine (long_any _ x _ (HX.out.ext (by with_reducible (repeat (first | exact Ext.rfl_ _ | assumption | refine Ext.drew ?_ | refine Ext.drewN ?_ _ | refine Ext.alloc ?_ _ | refine Ext.trans ?_ (by assumption)))))).mono ?_
    rintro e w1 ⟨rfl, hw1⟩
    rw [l1]
    go_wp2_with fail
    refine (known_any _).mono ?_
    rintro e w2 ⟨rfl, hw2⟩
    go_wp2
    go_ret
    exact ⟨rfl, (by with_reducible (repeat (first | exact Ext.rfl_ _ | assumption | refine Ext.drew ?_ | refine Ext.drewN ?_ _ | refine Ext.alloc ?_ _ | refine Ext.trans ?_ (by assumption))))⟩
  have l1' : longE x = false := by simpa using l1
  go_enter Try.func8, Try.ntmps8
  go_wp2_with fail
  refine (long_any _ x _ (HX.out.ext (by with_reducible (repeat (first | exact Ext.rfl_ _ | assumption | refine Ext.drew ?_ | refine Ext.drewN ?_ _ | refine Ext.alloc ?_ _ | refine Ext.trans ?_ (by assumption)))))).mono ?_
  rintro e w1 ⟨rfl, hw1⟩
  rw [l1']
  obtain ⟨q0, q1, q2, q3, f0, f1, f2, f3⟩ := box4 HB.out (w' := w1) (by with_reducible (repeat (first | exact Ext.rfl_ _ | assumption | refine Ext.drew ?_ | refine Ext.drewN ?_ _ | refine Ext.alloc ?_ _ | refine Ext.trans ?_ (by assumption))))
  go_wp2_with fail
  refine (rcopy_any _ x _ (HX.out.ext (by with_reducible (repeat (first | exact Ext.rfl_ _ | assumption | refine Ext.drew ?_ | refine Ext.drewN ?_ _ | refine Ext.alloc ?_ _ | refine Ext.trans ?_ (by assumption)))))).mono ?_
  rintro e w2 ⟨v2, rfl, hf2, hw2⟩
  have HF2 := Lib.hid hf2
  obtain ⟨A2, n2, c2, B2, m2, d2, rfl, _, _, _, _, _, _, _, _, _⟩ := hf2
  clear q0 q1 q2 q3 f0 f1 f2 f3
  have HB2 := Lib.hid (blk1 w2 (.cells #[.slice A2 n2 c2, .int .i64 x.seq, .int .i64 x.kind, .slice B2 m2 d2] 25))
  have x2b : Ext (w.alloc (.cells #[.slice A n c, .int .i64 x.seq, .int .i64 x.kind, .slice A' n' c'] 25)) w2 := (by with_reducible (repeat (first | exact Ext.rfl_ _ | assumption | refine Ext.drew ?_ | refine Ext.drewN ?_ _ | refine Ext.alloc ?_ _ | refine Ext.trans ?_ (by assumption))))
  have x2 : Ext w w2 := (Ext.alloc (Ext.rfl_ _) _).trans x2b
  have X2 := Lib.hid x2
  have X2B := Lib.hid x2b
  clear hw1 hw2 x2 x2b
  go_wp2_with fail
  refine (copyF_any _ x _ (HF2.out.rd.ext (by with_reducible (repeat (first | exact Ext.rfl_ _ | assumption | refine Ext.drew ?_ | refine Ext.drewN ?_ _ | refine Ext.alloc ?_ _ | refine Ext.trans ?_ (by assumption)))))).mono ?_
  rintro e w3 ⟨v3, rfl, hf3, hw3⟩
  have HF3 := Lib.hid hf3
  obtain ⟨A3, n3, c3, B3, m3, d3, rfl, o3, p3, r3, s3, b1, b2, b3, b4, _, _⟩ := hf3
  have HO3 := Lib.hid o3
  have HP3 := Lib.hid p3
  have HB3 := Lib.hid (blk1 w3 (.cells #[.slice A3 n3 c3, .int .i64 x.seq, .int .i64 x.kind, .slice B3 m3 d3] 25))
  have X3 := Lib.hid hw3
  unfold B47 at b2 b4
  clear o3 p3 r3 s3 hw3
  obtain ⟨q0, q1, q2, q3, f0, f1, f2, f3⟩ := box4 HB.out (w' := w3.alloc (.cells #[.slice A3 n3 c3, .int .i64 x.seq, .int .i64 x.kind, .slice B3 m3 d3] 25)) ((X2B.out.trans ((Ext.alloc (Ext.rfl_ _) _).trans X3.out)).alloc _)
  obtain ⟨g0, g1, g2, g3, h0, h1, h2, h3⟩ := box4 HB2.out (w' := w3.alloc (.cells #[.slice A3 n3 c3, .int .i64 x.seq, .int .i64 x.kind, .slice B3 m3 d3] 25)) (X3.out.alloc _)
  go_wp2_with fail
  refine (rsame_self _ _ x _ (HF3.out.rd.ext (by with_reducible (repeat (first | exact Ext.rfl_ _ | assumption | refine Ext.drew ?_ | refine Ext.drewN ?_ _ | refine Ext.alloc ?_ _ | refine Ext.trans ?_ (by assumption))))) ((HX.out.ext (X2.out.trans ((Ext.alloc (Ext.rfl_ _) _).trans X3.out))).ext (by with_reducible (repeat (first | exact Ext.rfl_ _ | assumption | refine Ext.drew ?_ | refine Ext.drewN ?_ _ | refine Ext.alloc ?_ _ | refine Ext.trans ?_ (by assumption)))))).mono ?_
  rintro e w4 ⟨rfl, hw4⟩
  obtain ⟨k0, k1, k2, k3, l0, l1, l2, l3⟩ := box4 HB3.out (w' := w4) hw4
  clear q0 q1 q2 q3 f0 f1 f2 f3 g0 g1 g2 g3 h0 h1 h2 h3
  obtain ⟨g0, g1, g2, g3, h0, h1, h2, h3⟩ := box4 HB2.out (w' := w4) (X3.out.trans ((Ext.alloc (Ext.rfl_ _) _).trans hw4))
  go_wp2_with fail
  refine (same_self _ _ x _ (HF3.out.rd.ext ((Ext.alloc (Ext.rfl_ _) _).trans hw4)) (HF2.out.rd.ext ((Ext.alloc (Ext.rfl_ _) _).trans (X3.out.trans ((Ext.alloc (Ext.rfl_ _) _).trans hw4))))).mono ?_
  rintro e w5 ⟨rfl, hw5⟩
  have x5 : Ext (w3.alloc (.cells #[.slice A3 n3 c3, .int .i64 x.seq, .int .i64 x.kind, .slice B3 m3 d3] 25)) w5 := hw4.trans hw5
  have X5 := Lib.hid x5
  clear k0 k1 k2 k3 l0 l1 l2 l3 g0 g1 g2 g3 h0 h1 h2 h3 hw4 hw5 x5
  have y5 : Ext w3 w5 := (Ext.alloc (Ext.rfl_ _) _).trans X5.out
  have HK := Lib.hid (OwnB.s (HO3.out.ext y5))
  have HV := Lib.hid (OwnB.s (HP3.out.ext y5))
  have x25 : Ext (w2.alloc (.cells #[.slice A2 n2 c2, .int .i64 x.seq, .int .i64 x.kind, .slice B2 m2 d2] 25)) w5 := X3.out.trans y5
  have X25 := Lib.hid x25
  have hnk : ∀ g, (Value.slice A3 n3 c3).ownBlock = some g → (w2.alloc (.cells #[.slice A2 n2 c2, .int .i64 x.seq, .int .i64 x.kind, .slice B2 m2 d2] 25)).heap.size ≤ g ∧ g < w3.heap.size := fun g hg => HO3.out.out.lt g hg
  have hnv : ∀ g, (Value.slice B3 m3 d3).ownBlock = some g → (w2.alloc (.cells #[.slice A2 n2 c2, .int .i64 x.seq, .int .i64 x.kind, .slice B2 m2 d2] 25)).heap.size ≤ g ∧ g < w3.heap.size := fun g hg => HP3.out.out.lt g hg
  have HNK := Lib.hid hnk
  have HNV := Lib.hid hnv
  have hbox5 : w5.heap[w3.heap.size]? = some (.cells #[.slice A3 n3 c3, .int .i64 x.seq, .int .i64 x.kind, .slice B3 m3 d3] 25 (0, 0)) := ((Ext.below X5.out).block _ (Array.getElem?_eq_some_iff.1 HB3.out).1).trans HB3.out
  have HBX := Lib.hid hbox5
  clear y5 x25 hnk hnv hbox5
  obtain ⟨base, hbase⟩ : ∃ z, z = (w2.alloc (.cells #[.slice A2 n2 c2, .int .i64 x.seq, .int .i64 x.kind, .slice B2 m2 d2] 25)).heap.size := ⟨_, rfl⟩
  rw [← hbase] at HK HV HNK HNV
  have HBASE := Lib.hid hbase
  clear hbase
  go_wp2
  go_loopw [5] (fun i wr => ∃ k : Nat, i = .int .i64 k ∧ k ≤ n3 ∧ Hid (w5.grownBy wr (Value.slice A3 n3 c3).ownBlock) ∧ Hid (OwnS wr base (.slice A3 n3 c3)) ∧ Hid (OwnS wr base (.slice B3 m3 d3))) (fun i _ => n3 - (intOf i).toNat)
  case atStart => exact ⟨0, rfl, Nat.zero_le _, Lib.hid (World.grownBy.refl _ _), HK, HV⟩
  case round =>
    obtain ⟨k, rfl, hk, hg, ho, hp⟩ := hrel
    have hbx := blk_row HBX.out hg.out (fun e => by have := (HNK.out _ e).2; omega)
    have HBR := Lib.hid hbx
    obtain ⟨g0, g1, g2, g3, h0, h1, h2, h3⟩ := cells4 hbx
    clear hbx
    by_cases c1 : (k : Int) < (n3 : Int)
    · obtain ⟨g, b, cs, fr, rfl, hgb, hcell, hfro, _⟩ := ho.out.at_ (show k < n3 by omega)
      obtain ⟨b', hb'⟩ := xor1 b
      have HB' := Lib.hid hb'
      clear hb'
      go_wp2
      go_still_tail 10, (by kernel_rfl)
      go_wp2
      go_roundw
      case rel =>
        exact ⟨k + 1, by go_num, by omega, Lib.hid (grownBy_drew (grownBy_set (show w5.grownBy wr (some g) from hg.out) k _)), Lib.hid ((ho.out.set b' _ (by rw [HB'.out])).ext (Ext.drew (Ext.rfl_ _))), Lib.hid ((hp.out.set b' _ (by rw [HB'.out])).ext (Ext.drew (Ext.rfl_ _)))⟩
      case measure => simp [intOf]; omega
    · have hx1 : Ext (w2.alloc (.cells #[.slice A2 n2 c2, .int .i64 x.seq, .int .i64 x.kind, .slice B2 m2 d2] 25)) wr := X25.out.grown hg.out (fun g e => by have := (HNK.out g e).1; rw [HBASE.out] at this; exact this)
      have HX1 := Lib.hid hx1
      clear hx1
      obtain ⟨wo, rfl⟩ : ∃ wo : World, wo = wr := ⟨_, rfl⟩
      go_wp2
      go_loopw [6] (fun i wr => ∃ k : Nat, i = .int .i64 k ∧ k ≤ m3 ∧ Hid (wo.grownBy wr (Value.slice B3 m3 d3).ownBlock) ∧ Hid (OwnS wr base (.slice B3 m3 d3))) (fun i _ => m3 - (intOf i).toNat)
      case atStart => exact ⟨0, rfl, Nat.zero_le _, Lib.hid (World.grownBy.refl _ _), hp⟩
      case round =>
        clear g0 g1 g2 g3 h0 h1 h2 h3 c1 hk hg ho hp
        obtain ⟨k, rfl, hk, hg, hp⟩ := hrel
        have hbx := blk_row HBR.out hg.out (fun e => by have := (HNV.out _ e).2; omega)
        obtain ⟨g0, g1, g2, g3, h0, h1, h2, h3⟩ := cells4 hbx
        clear hbx
        by_cases c1 : (k : Int) < (m3 : Int)
        · obtain ⟨g, b, cs, fr, rfl, hgb, hcell, hfro, _⟩ := hp.out.at_ (show k < m3 by omega)
          obtain ⟨b', hb'⟩ := xor1 b
          have HB' := Lib.hid hb'
          clear hb'
          go_wp2
          go_still_tail 10, (by kernel_rfl)
          go_wp2
          go_roundw
          case rel =>
            exact ⟨k + 1, by go_num, by omega, Lib.hid (grownBy_drew (grownBy_set (show wo.grownBy wr (some g) from hg.out) k _)), Lib.hid ((hp.out.set b' _ (by rw [HB'.out])).ext (Ext.drew (Ext.rfl_ _)))⟩
          case measure => simp [intOf]; omega
        · have hx2 : Ext (w2.alloc (.cells #[.slice A2 n2 c2, .int .i64 x.seq, .int .i64 x.kind, .slice B2 m2 d2] 25)) wr := HX1.out.grown hg.out (fun g e => by have := (HNV.out g e).1; rw [HBASE.out] at this; exact this)
          have HX2 := Lib.hid hx2
          have hy2 : Ext w2 wr := (Ext.alloc (Ext.rfl_ _) _).trans hx2
          have HY2 := Lib.hid hy2
          clear hx2 hy2 hg hp
          obtain ⟨e0, e1, e2, e3, j0, j1, j2, j3⟩ := box4 HB2.out (w' := wr) HX2.out
          obtain ⟨q0, q1, q2, q3, f0, f1, f2, f3⟩ := box4 HB.out (w' := wr) (X2B.out.trans HY2.out)
          go_wp2_with fail
          refine (rsame_self _ _ x _ (HF2.out.rd.ext HY2.out) (HX.out.ext (X2.out.trans HY2.out))).mono ?_
          rintro e w8 ⟨rfl, hw8⟩
          go_wp2_with fail
          refine (known_any _).mono ?_
          rintro e w9 ⟨rfl, hw9⟩
          go_wp2
          go_ret
          exact ⟨rfl, (X2.out.trans HY2.out).trans (hw8.trans hw9)⟩

end Go.Proofs.Ytpohmoakilioiaa
