/- Contracts of ikey.Bytes and ikey.Size. Conditions: the entry reads. -/
import Derived.Test.YtpohmoakilioiaaKeyB
namespace Go.Proofs.Ytpohmoakilioiaa
set_option linter.unusedSimpArgs false
set_option linter.unusedVariables false
set_option maxRecDepth 100000
open Go.RowKit

/-- An entry's bytes. -/
def entB (e : Ent) : Bs := bytB e.key ++ (numB e.seq.toNat ++ (numB e.kind.toNat ++ if e.kind = 1 then bytB e.val else []))

/-- What ikey.Bytes answers: the bytes, the error's number. -/
def wrE (e : Ent) : Bs := if mayE e = true then entB e else []
def wrN (e : Ent) : Int := if mayE e = true then 0 else 2
theorem wrE_yes {e : Ent} (h : mayE e = true) : wrE e = entB e := if_pos h
theorem wrN_yes {e : Ent} (h : mayE e = true) : wrN e = 0 := if_pos h
theorem wrE_no {e : Ent} (h : ¬ mayE e = true) : wrE e = [] := if_neg h
theorem wrN_no {e : Ent} (h : ¬ mayE e = true) : wrN e = 2 := if_neg h

theorem entB_put {e : Ent} (h : e.kind = 1) : entB e = [[bytB e.key, numB e.seq.toNat, numB e.kind.toNat].flatten, bytB e.val].flatten := by
  unfold entB; rw [if_pos h]; simp
theorem entB_del {e : Ent} (h : e.kind ≠ 1) : entB e = [bytB e.key, numB e.seq.toNat, numB e.kind.toNat].flatten := by
  unfold entB; rw [if_neg h]; simp

theorem Rd.of_OwnB {w : World} {base : Nat} {A : Option Addr} {n c : Nat} {x : Bs} (h : OwnB w base (.slice A n c) x) (hn : n = x.length) : Rd w A n x := by subst hn; exact Rd.of_own h.out

theorem number_z (z : Int) (w : World) (h0 : 0 ≤ z) (h1 : z ≤ 2147483647) :
    Calls Try.prog 51 #[.int .u64 z] w fun e w' => ∃ v', e = .returned v' ∧ OwnB w' w.heap.size v' (numB z.toNat) ∧ Ext w w' := by
  have := number_any z.toNat w (by omega)
  rwa [Int.toNat_of_nonneg h0] at this

theorem RdBB.new3 {w : World} {t : TypeId} {A0 A1 A2 : Option Addr} {n0 n1 n2 c0 c1 c2 : Nat} {x0 x1 x2 : Bs} (h0 : Rd w A0 n0 x0) (h1 : Rd w A1 n1 x1) (h2 : Rd w A2 n2 x2) :
    RdBB (w.alloc (.cells #[.slice A0 n0 c0, .slice A1 n1 c1, .slice A2 n2 c2] t)) (some ⟨w.heap.size, 0, none⟩) 3 [x0, x1, x2] := by
  have hb := heap_alloc_new w (.cells #[.slice A0 n0 c0, .slice A1 n1 c1, .slice A2 n2 c2] t)
  have ha := Ext.alloc (Ext.rfl_ w) (.cells #[.slice A0 n0 c0, .slice A1 n1 c1, .slice A2 n2 c2] t)
  refine ⟨rfl, fun _ => ⟨w.heap.size, 0, rfl, fun j hj => ?_⟩⟩
  match j, hj with
  | 0, _ => exact ⟨A0, n0, c0, by unfold World.cell?; simp only [hb]; rfl, h0.ext ha⟩
  | 1, _ => exact ⟨A1, n1, c1, by unfold World.cell?; simp only [hb]; rfl, h1.ext ha⟩
  | 2, _ => exact ⟨A2, n2, c2, by unfold World.cell?; simp only [hb]; rfl, h2.ext ha⟩
theorem RdBB.new2 {w : World} {t : TypeId} {A0 A1 : Option Addr} {n0 n1 c0 c1 : Nat} {x0 x1 : Bs} (h0 : Rd w A0 n0 x0) (h1 : Rd w A1 n1 x1) :
    RdBB (w.alloc (.cells #[.slice A0 n0 c0, .slice A1 n1 c1] t)) (some ⟨w.heap.size, 0, none⟩) 2 [x0, x1] := by
  have hb := heap_alloc_new w (.cells #[.slice A0 n0 c0, .slice A1 n1 c1] t)
  have ha := Ext.alloc (Ext.rfl_ w) (.cells #[.slice A0 n0 c0, .slice A1 n1 c1] t)
  refine ⟨rfl, fun _ => ⟨w.heap.size, 0, rfl, fun j hj => ?_⟩⟩
  match j, hj with
  | 0, _ => exact ⟨A0, n0, c0, by unfold World.cell?; simp only [hb]; rfl, h0.ext ha⟩
  | 1, _ => exact ⟨A1, n1, c1, by unfold World.cell?; simp only [hb]; rfl, h1.ext ha⟩

set_option maxRecDepth 100000 in
set_option maxHeartbeats 2000000 in
theorem bytes_any (v : Value) (x : Ent) (w : World) (hx : RdE w v x) :
    Calls Try.prog 17 #[v] w fun e w' => ∃ v', e = .returned (.tuple #[v', .int .i64 (wrN x)]) ∧ OwnB w' w.heap.size v' (wrE x) ∧ Ext w w' := by
  have HE := Lib.hid hx
  obtain ⟨A, n, c, A', n', c', rfl, hx1, hx2, _, h2, _, h4⟩ := hx
  have e1 := hx1.1
  have e2 := hx2.1
  have hb := blk1 w (.cells #[.slice A n c, .int .i64 x.seq, .int .i64 x.kind, .slice A' n' c'] 25)
  have hbox := Lib.hid hb
  clear hb
  by_cases hm : mayE x = true
  · have hM := mayE_iff.1 hm
    have hn32 : n ≤ B40 := by rw [← e1]; unfold B40; exact Nat.le_trans hM.2.1 (by omega)
    have hs1 : 1 ≤ x.seq := hM.2.2.1
    have hs2 : x.seq ≤ 2147483647 := hM.2.2.2.1
    have hv : n' ≤ B40 := by rw [← e2]; unfold B40; exact Nat.le_trans hM.2.2.2.2.1 (by omega)
    have hk12 : x.kind = 1 ∨ x.kind = 2 := hM.2.2.2.2.2.imp id (fun h => h.1)
    have hk1 : 1 ≤ x.kind := by omega
    have hk2 : x.kind ≤ 2 := by omega
    have hl1 : n ≤ 32 := by rw [← e1]; exact hM.2.1
    have hl2 : n' ≤ 65536 := by rw [← e2]; exact hM.2.2.2.2.1
    clear hM
    have j1 : (bytB x.key).length ≤ 42 := by unfold bytB; have := numB_length x.key.length; simp; omega
    have j2 := numB_length x.seq.toNat
    have j3 := numB_length x.kind.toNat
    have j4 : (bytB x.val).length ≤ 65546 := by unfold bytB; have := numB_length x.val.length; simp; omega
    have hsum1 : ([bytB x.key, numB x.seq.toNat, numB x.kind.toNat].flatten).length ≤ 62 := by simp; omega
    have hq1 : IntKind.u64.wrap x.seq = x.seq := by rw [IntKind.wrap_u64]; omega
    have hq2 : IntKind.u64.wrap x.kind = x.kind := by rw [IntKind.wrap_u64]; omega
    have HK := Lib.hid hk12
    clear hk12 e1 e2
    go_enter Try.func17, Try.ntmps17
    go_wp2_with fail
    refine (may_any _ x _ (HE.out.ext (by with_reducible (repeat (first | exact Ext.rfl_ _ | assumption | refine Ext.drew ?_ | refine Ext.drewN ?_ _ | refine Ext.alloc ?_ _ | refine Ext.trans ?_ (by assumption)))))).mono ?_
    rintro e w1 ⟨rfl, hw1⟩
    obtain ⟨g0, g1, g2, g3, f0, f1, f2, f3⟩ := box4 hbox.out (w' := w1) (by with_reducible (repeat (first | exact Ext.rfl_ _ | assumption | refine Ext.drew ?_ | refine Ext.drewN ?_ _ | refine Ext.alloc ?_ _ | refine Ext.trans ?_ (by assumption))))
    go_wp2_with fail
    go_region_held3 (fun w' => w'.cell? ⟨w.heap.size, 0, none⟩ = some (.slice A n c) ∧ w'.cell? ⟨w.heap.size, 1, none⟩ = some (.int .i64 x.seq) ∧ w'.cell? ⟨w.heap.size, 2, none⟩ = some (.int .i64 x.kind) ∧ w'.cell? ⟨w.heap.size, 3, none⟩ = some (.slice A' n' c') ∧
      w'.frozen? ⟨w.heap.size, 0, none⟩ = false ∧ w'.frozen? ⟨w.heap.size, 1, none⟩ = false ∧ w'.frozen? ⟨w.heap.size, 2, none⟩ = false ∧ w'.frozen? ⟨w.heap.size, 3, none⟩ = false)
      (exact box4 hbox.out (by with_reducible (repeat (first | exact Ext.rfl_ _ | assumption | refine Ext.drew ?_ | refine Ext.drewN ?_ _ | refine Ext.alloc ?_ _ | refine Ext.trans ?_ (by assumption)))))
      (first | (go_at_call 50; refine (wbytes_any A n c x.key _ (hx1.ext (by with_reducible (repeat (first | exact Ext.rfl_ _ | assumption | refine Ext.drew ?_ | refine Ext.drewN ?_ _ | refine Ext.alloc ?_ _ | refine Ext.trans ?_ (by assumption))))) hn32).mono ?_; rintro e w2 ⟨v2, rfl, o2, hw2⟩; obtain ⟨A2, n2, c2, rfl, l2, r2, i2⟩ := o2.formN)
             | (go_at_call_of 51 (Value.int .u64 x.seq); refine (number_z x.seq _ (by omega) (by omega)).mono ?_; rintro e w3 ⟨v3, rfl, o3, hw3⟩; obtain ⟨A3, n3, c3, rfl, l3, r3, i3⟩ := o3.formN)
             | (go_at_call_of 51 (Value.int .u64 x.kind); refine (number_z x.kind _ (by omega) (by omega)).mono ?_; rintro e w4 ⟨v4, rfl, o4, hw4⟩; obtain ⟨A4, n4, c4, rfl, l4, r4, i4⟩ := o4.formN)
             | (go_at_call 49; refine (join_any _ 3 3 [bytB x.key, numB x.seq.toNat, numB x.kind.toNat] _ (RdBB.new3 (r2.ext (by with_reducible (repeat (first | exact Ext.rfl_ _ | assumption | refine Ext.drew ?_ | refine Ext.drewN ?_ _ | refine Ext.alloc ?_ _ | refine Ext.trans ?_ (by assumption))))) (r3.ext (by with_reducible (repeat (first | exact Ext.rfl_ _ | assumption | refine Ext.drew ?_ | refine Ext.drewN ?_ _ | refine Ext.alloc ?_ _ | refine Ext.trans ?_ (by assumption))))) (r4.ext (by with_reducible (repeat (first | exact Ext.rfl_ _ | assumption | refine Ext.drew ?_ | refine Ext.drewN ?_ _ | refine Ext.alloc ?_ _ | refine Ext.trans ?_ (by assumption)))))) (by decide) (by unfold B47; omega)).mono ?_; rintro e w5 ⟨v5, rfl, o5, hw5⟩; obtain ⟨A5, n5, c5, rfl, l5, r5, i5⟩ := o5.formN))
    obtain ⟨g0, g1, g2, g3, f0, f1, f2, f3⟩ := box4 hbox.out (w' := w5) (by with_reducible (repeat (first | exact Ext.rfl_ _ | assumption | refine Ext.drew ?_ | refine Ext.drewN ?_ _ | refine Ext.alloc ?_ _ | refine Ext.trans ?_ (by assumption))))
    have base5 : w.heap.size ≤ (w4.alloc (.cells #[.slice A2 n2 c2, .slice A3 n3 c3, .slice A4 n4 c4] 22)).heap.size := Ext.size (w := w) (w' := w4.alloc _) (by with_reducible (repeat (first | exact Ext.rfl_ _ | assumption | refine Ext.drew ?_ | refine Ext.drewN ?_ _ | refine Ext.alloc ?_ _ | refine Ext.trans ?_ (by assumption))))
    rcases HK.out with hk | hk
    · have hkb : (x.kind == 1) = true := by simpa using hk
      have HK1 := Lib.hid hk
      clear hk
      go_wp2_with fail
      refine (wbytes_any A' n' c' x.val _ (hx2.ext (by with_reducible (repeat (first | exact Ext.rfl_ _ | assumption | refine Ext.drew ?_ | refine Ext.drewN ?_ _ | refine Ext.alloc ?_ _ | refine Ext.trans ?_ (by assumption))))) hv).mono ?_
      rintro e w6 ⟨v6, rfl, o6, hw6⟩
      obtain ⟨A6, n6, c6, rfl, l6, r6, i6⟩ := o6.formN
      go_wp2_with fail
      refine (join_any _ 2 2 [[bytB x.key, numB x.seq.toNat, numB x.kind.toNat].flatten, bytB x.val] _ (RdBB.new2 (r5.ext (by with_reducible (repeat (first | exact Ext.rfl_ _ | assumption | refine Ext.drew ?_ | refine Ext.drewN ?_ _ | refine Ext.alloc ?_ _ | refine Ext.trans ?_ (by assumption))))) (r6.ext (by with_reducible (repeat (first | exact Ext.rfl_ _ | assumption | refine Ext.drew ?_ | refine Ext.drewN ?_ _ | refine Ext.alloc ?_ _ | refine Ext.trans ?_ (by assumption)))))) (by decide) (by rw [List.flatten_cons, List.length_append]; unfold B47; simp at hsum1 ⊢; omega)).mono ?_
      rintro e w7 ⟨v7, rfl, o7, hw7⟩
      have base7 : w.heap.size ≤ w6.heap.size := Ext.size (w := w) (w' := w6) (by with_reducible (repeat (first | exact Ext.rfl_ _ | assumption | refine Ext.drew ?_ | refine Ext.drewN ?_ _ | refine Ext.alloc ?_ _ | refine Ext.trans ?_ (by assumption))))
      go_wp2
      go_ret2
      refine ⟨v7, by rw [wrN_yes hm]; rfl, ?_, (by with_reducible (repeat (first | exact Ext.rfl_ _ | assumption | refine Ext.drew ?_ | refine Ext.drewN ?_ _ | refine Ext.alloc ?_ _ | refine Ext.trans ?_ (by assumption))))⟩
      rw [wrE_yes hm, entB_put HK1.out]
      exact o7.mono (by simp; omega)
    · have hkb : (x.kind == 1) = false := by simp; omega
      have HK1 := Lib.hid hk
      clear hk
      go_wp2
      go_ret2
      refine ⟨_, by rw [wrN_yes hm]; rfl, ?_, (by with_reducible (repeat (first | exact Ext.rfl_ _ | assumption | refine Ext.drew ?_ | refine Ext.drewN ?_ _ | refine Ext.alloc ?_ _ | refine Ext.trans ?_ (by assumption))))⟩
      rw [wrE_yes hm, entB_del (by rw [HK1.out]; decide)]
      exact o5.mono base5
  · have hm' : mayE x = false := by simpa using hm
    go_enter Try.func17, Try.ntmps17
    go_wp2_with fail
    refine (may_any _ x _ (HE.out.ext (by with_reducible (repeat (first | exact Ext.rfl_ _ | assumption | refine Ext.drew ?_ | refine Ext.drewN ?_ _ | refine Ext.alloc ?_ _ | refine Ext.trans ?_ (by assumption)))))).mono ?_
    rintro e w1 ⟨rfl, hw1⟩
    go_wp2
    go_ret2
    refine ⟨_, by rw [wrN_no hm]; rfl, ?_, (by with_reducible (repeat (first | exact Ext.rfl_ _ | assumption | refine Ext.drew ?_ | refine Ext.drewN ?_ _ | refine Ext.alloc ?_ _ | refine Ext.trans ?_ (by assumption))))⟩
    rw [wrE_no hm]
    exact OwnB.nil _ _

theorem size_any (v : Value) (x : Ent) (w : World) (hx : RdE w v x) :
    Calls Try.prog 34 #[v] w fun e w' => e = .returned (.int .i64 (wrE x).length) ∧ Ext w w' := by
  have HE := Lib.hid hx
  obtain ⟨A, n, c, A', n', c', rfl, hx1, hx2, _, h2, _, h4⟩ := hx
  go_enter Try.func34, Try.ntmps34
  go_wp2_with fail
  refine (bytes_any _ x _ (HE.out.ext (by with_reducible (repeat (first | exact Ext.rfl_ _ | assumption | refine Ext.drew ?_ | refine Ext.drewN ?_ _ | refine Ext.alloc ?_ _ | refine Ext.trans ?_ (by assumption)))))).mono ?_
  rintro e w1 ⟨v1, rfl, o1, hw1⟩
  obtain ⟨A1, n1, c1, rfl, l1, r1, i1⟩ := o1.formN
  go_wp2
  go_ret
  exact ⟨ret_int (by rw [← r1.1]), (by with_reducible (repeat (first | exact Ext.rfl_ _ | assumption | refine Ext.drew ?_ | refine Ext.drewN ?_ _ | refine Ext.alloc ?_ _ | refine Ext.trans ?_ (by assumption))))⟩

end Go.Proofs.Ytpohmoakilioiaa
