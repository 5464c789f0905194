/- IkeyBounds: the six entries beyond their bounds. Conditions: none. -/
import Derived.Test.YtpohmoakilioiaaBoundsM
import Derived.Test.YtpohmoakilioiaaRdRow
namespace Go.Proofs.Ytpohmoakilioiaa
set_option linter.unusedSimpArgs false
set_option linter.unusedVariables false
open Go.RowKit

def zs (n : Nat) : Bs := List.replicate n 0
theorem zs_len (n : Nat) : (zs n).length = n := by simp [zs]
def bndA : Ent := ⟨zs 32, 2147483647, 1, zs 65536⟩
def bndL : List Ent := [⟨zs 33, 2147483647, 1, zs 65536⟩, ⟨zs 32, 2147483647, 1, zs 65537⟩, ⟨zs 32, 2147483648, 1, zs 65536⟩, ⟨zs 32, 2147483647, 3, zs 65536⟩, ⟨[], 2147483647, 1, zs 65536⟩, ⟨zs 32, 0, 1, zs 65536⟩]
def bndH (g1 g2 : Nat) : List Hdr := [⟨some ⟨g1, 0, none⟩, 33, 33, some ⟨g2, 0, none⟩, 65536, 65537⟩, ⟨some ⟨g1, 0, none⟩, 32, 33, some ⟨g2, 0, none⟩, 65537, 65537⟩, ⟨some ⟨g1, 0, none⟩, 32, 33, some ⟨g2, 0, none⟩, 65536, 65537⟩, ⟨some ⟨g1, 0, none⟩, 32, 33, some ⟨g2, 0, none⟩, 65536, 65537⟩, ⟨none, 0, 0, some ⟨g2, 0, none⟩, 65536, 65537⟩, ⟨some ⟨g1, 0, none⟩, 32, 33, some ⟨g2, 0, none⟩, 65536, 65537⟩]

theorem bnd_no : ∀ x ∈ bndL, mayE x = false := by
  intro x hx
  unfold bndL at hx
  simp only [List.mem_cons, List.not_mem_nil, or_false] at hx
  rcases hx with rfl | rfl | rfl | rfl | rfl | rfl <;> simp [mayE, MayE, zs_len]
theorem bndA_may : mayE bndA = true := by simp [mayE, MayE, bndA, zs_len]

theorem rd_take_z {w : World} {A : Option Addr} {n k : Nat} (h : Rd w A n (zs n)) (hk : k ≤ n) : Rd w A k (zs k) := by
  refine ⟨zs_len k, fun h0 => ?_⟩
  obtain ⟨b, o, e, hcl⟩ := h.2 (by omega)
  refine ⟨b, o, e, fun j hj => ?_⟩
  have hj' : j < (zs n).length := by rw [zs_len] at hj ⊢; omega
  have := hcl j hj'
  simp only [zs, List.getElem_replicate] at this ⊢
  exact this
theorem bnd_rd {w : World} {g1 g2 : Nat} (h1 : Rd w (some ⟨g1, 0, none⟩) 33 (zs 33)) (h2 : Rd w (some ⟨g2, 0, none⟩) 65537 (zs 65537)) :
    ∀ k (i1 : k < (bndH g1 g2).length) (i2 : k < bndL.length), RdE w (.agg (cellsE (bndH g1 g2)[k] bndL[k]).toArray) bndL[k] := by
  have a1 := rd_take_z h1 (k := 32) (by omega)
  have a2 := rd_take_z h2 (k := 65536) (by omega)
  intro k i1 i2
  simp [bndL] at i2
  match k, i2 with
  | 0, _ => exact ⟨_, _, _, _, _, _, rfl, h1, a2, (show (33 : Nat) ≤ 33 by decide), (show (33 : Nat) ≤ B47 by decide), (show (65536 : Nat) ≤ 65537 by decide), (show (65536 : Nat) ≤ B47 by decide)⟩
  | 1, _ => exact ⟨_, _, _, _, _, _, rfl, a1, h2, (show (32 : Nat) ≤ 33 by decide), (show (32 : Nat) ≤ B47 by decide), (show (65537 : Nat) ≤ 65537 by decide), (show (65537 : Nat) ≤ B47 by decide)⟩
  | 2, _ => exact ⟨_, _, _, _, _, _, rfl, a1, a2, (show (32 : Nat) ≤ 33 by decide), (show (32 : Nat) ≤ B47 by decide), (show (65536 : Nat) ≤ 65537 by decide), (show (65536 : Nat) ≤ B47 by decide)⟩
  | 3, _ => exact ⟨_, _, _, _, _, _, rfl, a1, a2, (show (32 : Nat) ≤ 33 by decide), (show (32 : Nat) ≤ B47 by decide), (show (65536 : Nat) ≤ 65537 by decide), (show (65536 : Nat) ≤ B47 by decide)⟩
  | 4, _ => exact ⟨_, _, _, _, _, _, rfl, Rd.nil _ _, a2, (show (0 : Nat) ≤ 0 by decide), (show (0 : Nat) ≤ B47 by decide), (show (65536 : Nat) ≤ 65537 by decide), (show (65536 : Nat) ≤ B47 by decide)⟩
  | 5, _ => exact ⟨_, _, _, _, _, _, rfl, a1, a2, (show (32 : Nat) ≤ 33 by decide), (show (32 : Nat) ≤ B47 by decide), (show (65536 : Nat) ≤ 65537 by decide), (show (65536 : Nat) ≤ B47 by decide)⟩
  | k + 6, h => omega
theorem ris_one_no {x : Ent} (h : mayE x = false) : (((ris none [x]).length : Int) == ((1 : Nat) : Int)) = false := by
  simp [ris, behO, h]

end Go.Proofs.Ytpohmoakilioiaa
