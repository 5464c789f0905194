/- Contracts of ikey.Bytes and ikey.Size. Conditions: the entry reads. -/
import Derived.Test.YteooaplimiifiaaGreatKeyB
namespace Go.Proofs.YteooaplimiifiaaGreat
set_option linter.unusedSimpArgs false
set_option linter.unusedVariables false
set_option maxRecDepth 100000
open Go.RowKit

/-- An entry's bytes. -/
def entB (e : Ent) : Bs := bytB e.key ++ (numB e.seq.toNat ++ (numB e.kind.toNat ++ if e.kind = 1 then bytB e.val else []))

/-- What ikey.Bytes answers: the bytes, the error's number. -/
def wrE (e : Ent) : Bs := if mayE e = true then entB e else []
def wrN (e : Ent) : Int := if mayE e = true then 0 else 2
theorem wrE_yes {e : Ent} (h : mayE e = true) : wrE e = entB e := if_pos h
theorem wrN_yes {e : Ent} (h : mayE e = true) : wrN e = 0 := if_pos h
theorem wrE_no {e : Ent} (h : ¬ mayE e = true) : wrE e = [] := if_neg h
theorem wrN_no {e : Ent} (h : ¬ mayE e = true) : wrN e = 2 := if_neg h

theorem entB_put {e : Ent} (h : e.kind = 1) : entB e = [[bytB e.key, numB e.seq.toNat, numB e.kind.toNat].flatten, bytB e.val].flatten := by
  unfold entB; rw [if_pos h]; simp
theorem entB_del {e : Ent} (h : e.kind ≠ 1) : entB e = [bytB e.key, numB e.seq.toNat, numB e.kind.toNat].flatten := by
  unfold entB; rw [if_neg h]; simp

theorem Rd.of_OwnB {w : World} {base : Nat} {A : Option Addr} {n c : Nat} {x : Bs} (h : OwnB w base (.slice A n c) x) (hn : n = x.length) : Rd w A n x := by subst hn; exact Rd.of_own h.out

theorem number_z (z : Int) (w : World) (h0 : 0 ≤ z) (h1 : z ≤ 2147483647) :
    Calls Tryz.prog 52 #[.int .u64 z] w fun e w' => ∃ v', e = .returned v' ∧ OwnB w' w.heap.size v' (numB z.toNat) ∧ Ext w w' := by
  have := number_any z.toNat w (by omega)
  rwa [Int.toNat_of_nonneg h0] at this

theorem RdBB.new3 {w : World} {t : TypeId} {A0 A1 A2 : Option Addr} {n0 n1 n2 c0 c1 c2 : Nat} {x0 x1 x2 : Bs} (h0 : Rd w A0 n0 x0) (h1 : Rd w A1 n1 x1) (h2 : Rd w A2 n2 x2) :
    RdBB (w.alloc (.cells #[.slice A0 n0 c0, .slice A1 n1 c1, .slice A2 n2 c2] t)) (some ⟨w.heap.size, 0, none⟩) 3 [x0, x1, x2] := by
  have hb := heap_alloc_new w (.cells #[.slice A0 n0 c0, .slice A1 n1 c1, .slice A2 n2 c2] t)
  have ha := Ext.alloc (Ext.rfl_ w) (.cells #[.slice A0 n0 c0, .slice A1 n1 c1, .slice A2 n2 c2] t)
  refine ⟨rfl, fun _ => ⟨w.heap.size, 0, rfl, fun j hj => ?_⟩⟩
  match j, hj with
  | 0, _ => exact ⟨A0, n0, c0, by unfold World.cell?; simp only [hb]; rfl, h0.ext ha⟩
  | 1, _ => exact ⟨A1, n1, c1, by unfold World.cell?; simp only [hb]; rfl, h1.ext ha⟩
  | 2, _ => exact ⟨A2, n2, c2, by unfold World.cell?; simp only [hb]; rfl, h2.ext ha⟩
theorem RdBB.new2 {w : World} {t : TypeId} {A0 A1 : Option Addr} {n0 n1 c0 c1 : Nat} {x0 x1 : Bs} (h0 : Rd w A0 n0 x0) (h1 : Rd w A1 n1 x1) :
    RdBB (w.alloc (.cells #[.slice A0 n0 c0, .slice A1 n1 c1] t)) (some ⟨w.heap.size, 0, none⟩) 2 [x0, x1] := by
  have hb := heap_alloc_new w (.cells #[.slice A0 n0 c0, .slice A1 n1 c1] t)
  have ha := Ext.alloc (Ext.rfl_ w) (.cells #[.slice A0 n0 c0, .slice A1 n1 c1] t)
  refine ⟨rfl, fun _ => ⟨w.heap.size, 0, rfl, fun j hj => ?_⟩⟩
  match j, hj with
  | 0, _ => exact ⟨A0, n0, c0, by unfold World.cell?; simp only [hb]; rfl, h0.ext ha⟩
  | 1, _ => exact ⟨A1, n1, c1, by unfold World.cell?; simp only [hb]; rfl, h1.ext ha⟩



end Go.Proofs.YteooaplimiifiaaGreat
