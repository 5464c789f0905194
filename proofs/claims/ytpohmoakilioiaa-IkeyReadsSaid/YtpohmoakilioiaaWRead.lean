/- The walk of IkeyReads. Conditions: the slice reads. -/
import Derived.Test.YtpohmoakilioiaaRefT
import Derived.Test.YtpohmoakilioiaaWCop
namespace Go.Proofs.Ytpohmoakilioiaa
set_option linter.unusedSimpArgs false
set_option linter.unusedVariables false
open Go.RowKit

theorem Rd.takeN {w : World} {A : Option Addr} {n k : Nat} {x : Bs} (h : Rd w A n x) (hk : k ≤ n) : Rd w A k (x.take k) := by
  refine ⟨by rw [List.length_take, h.1]; omega, fun h0 => ?_⟩
  obtain ⟨b, o, e, hcl⟩ := h.2 (by omega)
  refine ⟨b, o, e, fun j hj => ?_⟩
  rw [List.length_take] at hj
  rw [List.getElem_take]
  exact hcl j (by omega)

theorem lit1n (w : World) (t : TypeId) (a : UInt8) : Rd (w.alloc (.cells #[.int .u8 a.toNat] t)) (some ⟨w.heap.size, 0, none⟩) 1 [a] := by
  have h := heap_alloc_new w (.cells #[.int .u8 (a.toNat : Int)] t)
  refine ⟨rfl, fun _ => ⟨_, 0, rfl, fun j hj => ?_⟩⟩
  obtain rfl : j = 0 := by simp at hj; exact hj
  unfold World.cell?; simp only [h]; rfl

set_option maxRecDepth 100000 in
set_option maxHeartbeats 4000000 in
theorem reads_walk (A : Option Addr) (n c : Nat) (x : Bs) (w : World) (hx : Rd w A n x) (hnc : n ≤ c) (hn : n ≤ B47) :
    Calls Try.prog 5 #[.slice A n c] w fun e w' => e = .returned (.bool true) ∧ Ext w w' := by
  have HX := Lib.hid hx
  have hl := hx.1
  have HL := Lib.hid hl
  unfold B47 at hn
  clear hx hl
  by_cases h1 : (100000 : Int) < (n : Int)
  · go_enter Try.func5, Try.ntmps5
    go_wp2_with fail
    refine (known_any _).mono ?_
    rintro e w2 ⟨rfl, hw2⟩
    go_wp2
    go_ret
    exact ⟨rfl, (by with_reducible (repeat (first | exact Ext.rfl_ _ | assumption | refine Ext.drew ?_ | refine Ext.drewN ?_ _ | refine Ext.alloc ?_ _ | refine Ext.trans ?_ (by assumption))))⟩
  have hn2 : n ≤ 100000 := by omega
  have hq1 : ([] : Bs).length + x.length ≤ B47 := by rw [HL.out]; unfold B47; simp; omega
  have hq2 : x.length + [(119 : UInt8)].length ≤ B47 := by rw [HL.out]; unfold B47; simp; omega
  have HQ1 := Lib.hid hq1
  have HQ2 := Lib.hid hq2
  clear hq1 hq2
  go_enter Try.func5, Try.ntmps5
  go_wp2_with (first | (at_builtin; refine wp_app rfl (.const (.slice none 0 0)) (.tmp 14) rfl w.heap.size (.slice none 0 0) [] rfl (OwnB.nil _ _) A n _ x rfl HX.out HQ1.out (Nat.le_refl _) ?_; intro v1 w1 o1 g1; have o1' : OwnB w1 w.heap.size v1 x := o1; have x1 : Ext w w1 := Ext.grown (Ext.rfl_ _) g1 (fun k hk => (by cases hk)); clear o1 g1) | (at_builtin; refine wp_app rfl (.tmp 15) (.tmp 16) rfl w.heap.size v1 x rfl (o1'.ext (by with_reducible (repeat (first | exact Ext.rfl_ _ | assumption | refine Ext.drew ?_ | refine Ext.drewN ?_ _ | refine Ext.alloc ?_ _ | refine Ext.trans ?_ (by assumption))))) (some ⟨w1.heap.size, 0, none⟩) 1 _ [119] rfl (lit1n w1 _ 119) HQ2.out (by have := x1.size; simp; omega) ?_; intro v2 w2 o2 g2; have x2 : Ext w w2 := Ext.growBy (x1.alloc _) g2 (o1'.ext (Ext.alloc (Ext.rfl_ _) _)) (Nat.le_refl _); obtain ⟨A2, n2, c2, rfl, hl2, hr2, hi2⟩ := o2.formN; have hn2' := hr2.1; have HR2 := Lib.hid hr2; clear o1' g2 hr2 o2 x1; simp only [List.length_append, HL.out, List.length_cons, List.length_nil] at hn2'))
  have hown : Rd w2 A2 n x := by
    have := HR2.out.takeN (k := n) (by omega)
    rwa [List.take_left' HL.out] at this
  have HOWN := Lib.hid hown
  have X2 := Lib.hid x2
  clear hown x2
  refine (read_any A2 n _ x _ HOWN.out (by unfold B40; omega)).mono ?_
  rintro e w3 ⟨v3, rfl, hf3, hw3⟩
  have HF3 := Lib.hid hf3
  obtain ⟨A3, n3, c3, B3, m3, d3, rfl, o3, p3, r3, s3, b1, b2, b3, b4, _, _⟩ := hf3
  have HO3 := Lib.hid o3
  have HP3 := Lib.hid p3
  have HB3 := Lib.hid (blk1 w3 (.cells #[.slice A3 n3 c3, .int .i64 (rdE x).seq, .int .i64 (rdE x).kind, .slice B3 m3 d3] 25))
  have X3 := Lib.hid hw3
  unfold B47 at b2 b4
  clear o3 p3 r3 s3 hw3
  go_wp2_with fail
  refine (rread_any A n c x _ (HX.out.ext (X2.out.trans (X3.out.alloc _))) hnc (by unfold B40; omega)).mono ?_
  rintro e w5 ⟨v5, rfl, hf5, hw5⟩
  have HF5 := Lib.hid hf5
  obtain ⟨A5, n5, c5, B5, m5, d5, rfl, _, _, _, _, _, _, _, _, _, _⟩ := hf5
  have X5 := Lib.hid hw5
  clear hw5
  obtain ⟨k0, k1, k2, k3, l0, l1, l2, l3⟩ := box4 HB3.out (w' := w5.alloc (.cells #[.slice A5 n5 c5, .int .i64 (rdE x).seq, .int .i64 (rdE x).kind, .slice B5 m5 d5] 25)) (X5.out.alloc _)
  go_wp2_with fail
  refine (rsame_self _ _ (rdE x) _ (HF3.out.rd.ext ((Ext.alloc (Ext.rfl_ _) _).trans (X5.out.alloc _))) (HF5.out.rd.ext (Ext.alloc (Ext.rfl_ _) _))).mono ?_
  rintro e w6 ⟨rfl, hw6⟩
  have x6 : Ext (w3.alloc (.cells #[.slice A3 n3 c3, .int .i64 (rdE x).seq, .int .i64 (rdE x).kind, .slice B3 m3 d3] 25)) w6 := (X5.out.alloc _).trans hw6
  have X6 := Lib.hid x6
  clear k0 k1 k2 k3 l0 l1 l2 l3 hw6 x6
  go_wp2_with fail
  refine (num_any _ _).mono ?_
  rintro e w7 ⟨rfl, rfl⟩
  have y5 : Ext w3 w6 := (Ext.alloc (Ext.rfl_ _) _).trans X6.out
  have HK := Lib.hid (OwnB.s (HO3.out.ext y5))
  have HV := Lib.hid (OwnB.s (HP3.out.ext y5))
  have x25 : Ext w2 w6 := X3.out.trans y5
  have X25 := Lib.hid x25
  have hnk : ∀ g, (Value.slice A3 n3 c3).ownBlock = some g → w2.heap.size ≤ g ∧ g < w3.heap.size := fun g hg => HO3.out.out.lt g hg
  have hnv : ∀ g, (Value.slice B3 m3 d3).ownBlock = some g → w2.heap.size ≤ g ∧ g < w3.heap.size := fun g hg => HP3.out.out.lt g hg
  have HNK := Lib.hid hnk
  have HNV := Lib.hid hnv
  have hbox5 : w6.heap[w3.heap.size]? = some (.cells #[.slice A3 n3 c3, .int .i64 (rdE x).seq, .int .i64 (rdE x).kind, .slice B3 m3 d3] 25 (0, 0)) := ((Ext.below X6.out).block _ (Array.getElem?_eq_some_iff.1 HB3.out).1).trans HB3.out
  have HBX := Lib.hid hbox5
  have hrn : (rdN x != rdN x) = false := by simp
  clear y5 x25 hnk hnv hbox5
  go_wp2
  go_loopw [8] (fun i wr => ∃ k : Nat, i = .int .i64 k ∧ k ≤ n3 ∧ Hid (w6.grownBy wr (Value.slice A3 n3 c3).ownBlock) ∧ Hid (OwnS wr w2.heap.size (.slice A3 n3 c3)) ∧ Hid (OwnS wr w2.heap.size (.slice B3 m3 d3))) (fun i _ => n3 - (intOf i).toNat)
  case atStart => exact ⟨0, rfl, Nat.zero_le _, Lib.hid (World.grownBy.refl _ _), HK, HV⟩
  case round =>
    obtain ⟨k, rfl, hk, hg, ho, hp⟩ := hrel
    have hbx := blk_row HBX.out hg.out (fun e => by have := (HNK.out _ e).2; omega)
    have HBR := Lib.hid hbx
    obtain ⟨g0, g1, g2, g3, h0, h1', h2, h3⟩ := cells4 hbx
    clear hbx
    by_cases c1 : (k : Int) < (n3 : Int)
    · obtain ⟨g, b, cs, fr, rfl, hgb, hcell, hfro, _⟩ := ho.out.at_ (show k < n3 by omega)
      go_wp2
      go_roundw
      case rel =>
        exact ⟨k + 1, by go_num, by omega, Lib.hid (grownBy_set (show w6.grownBy wr (some g) from hg.out) k _), Lib.hid (ho.out.set 102 _ rfl), Lib.hid (hp.out.set 102 _ rfl)⟩
      case measure => simp [intOf]; omega
    · have hx1 : Ext w2 wr := X25.out.grown hg.out (fun g e => (HNK.out g e).1)
      have HX1 := Lib.hid hx1
      clear hx1
      obtain ⟨wo, rfl⟩ : ∃ wo : World, wo = wr := ⟨_, rfl⟩
      go_wp2
      go_loopw [9] (fun i wr => ∃ k : Nat, i = .int .i64 k ∧ k ≤ m3 ∧ Hid (wo.grownBy wr (Value.slice B3 m3 d3).ownBlock) ∧ Hid (OwnS wr w2.heap.size (.slice B3 m3 d3))) (fun i _ => m3 - (intOf i).toNat)
      case atStart => exact ⟨0, rfl, Nat.zero_le _, Lib.hid (World.grownBy.refl _ _), hp⟩
      case round =>
        clear g0 g1 g2 g3 h0 h1' h2 h3 c1 hk hg ho hp
        obtain ⟨k, rfl, hk, hg, hp⟩ := hrel
        have hbx := blk_row HBR.out hg.out (fun e => by have := (HNV.out _ e).2; omega)
        obtain ⟨g0, g1, g2, g3, h0, h1', h2, h3⟩ := cells4 hbx
        clear hbx
        by_cases c1 : (k : Int) < (m3 : Int)
        · obtain ⟨g, b, cs, fr, rfl, hgb, hcell, hfro, _⟩ := hp.out.at_ (show k < m3 by omega)
          go_wp2
          go_roundw
          case rel =>
            exact ⟨k + 1, by go_num, by omega, Lib.hid (grownBy_set (show wo.grownBy wr (some g) from hg.out) k _), Lib.hid (hp.out.set 102 _ rfl)⟩
          case measure => simp [intOf]; omega
        · have hx2 : Ext w2 wr := HX1.out.grown hg.out (fun g e => (HNV.out g e).1)
          have HX2 := Lib.hid hx2
          have s1 := (HR2.out.ext hx2).str (P := Try.prog) c2 22 5 9 Try.underlying22 Try.underlying5 Try.underlying9
          have s2 := (HX.out.ext (X2.out.trans hx2)).str (P := Try.prog) c 22 5 9 Try.underlying22 Try.underlying5 Try.underlying9
          have happ : ((⟨x.toArray⟩ : ByteArray) ++ ⟨#[119]⟩) = ⟨(x ++ [119]).toArray⟩ := by apply ByteArray.ext; simp
          have hlx : ¬ 9223372036854775807 < x.length + 1 := by rw [HL.out]; omega
          clear hx2 hg hp
          go_wp2_with fail
          refine (known_any _).mono ?_
          rintro e w9 ⟨rfl, hw9⟩
          go_wp2
          go_ret
          exact ⟨rfl, (X2.out.trans HX2.out).trans hw9⟩

end Go.Proofs.Ytpohmoakilioiaa
