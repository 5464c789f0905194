/- The law's goes over From and Level. Conditions: the list is one; the lists read. -/
import Derived.Test.YtddaagldelcbeaaSkW
import Derived.Test.YtddaagldelcbeaaSkR
import Derived.Test.YtddaagldelcbeaaGoes
namespace Go.Proofs.Ytddaagldelcbeaa
set_option linter.unusedSimpArgs false
set_option linter.unusedVariables false
open Go.RowKit Go.Shelf

theorem cmpE_key {a b : Ent} (h : cmpE a b < 0) : cmpK a.key b.key ≤ 0 := by
  unfold cmpE orI at h
  split at h <;> omega
theorem dropK_not {k : Bs} {L : List Nd} (hu : (L.map Nd.x).Pairwise fun a b => cmpE a b < 0) : ∀ b ∈ L.dropWhile (fun nd => decide (cmpK nd.x.key k < 0)), ¬ cmpK b.x.key k < 0 := by
  induction L with
  | nil => intro b h; simp at h
  | cons n L ih =>
    intro b hb
    rw [List.map_cons, List.pairwise_cons] at hu
    rw [List.dropWhile_cons] at hb
    split at hb
    · exact ih hu.2 b hb
    · rename_i hn
      have hn' : ¬ cmpK n.x.key k < 0 := by simpa using hn
      rcases List.mem_cons.1 hb with rfl | hb
      · exact hn'
      · intro h
        have h1 := cmpE_key (hu.1 b.x (List.mem_map_of_mem hb))
        have h2 := cmpK_trans n.x.key b.x.key k h1 (by omega)
        have h3 : cmpK n.x.key k = 0 := by omega
        have h4 : n.x.key = k := (cmpK_eq_zero _ _).1 h3
        have h5 := cmpK_anti n.x.key b.x.key
        rw [h4] at h1 h5
        omega

theorem goesFrom_any (g h : Nat) (L : List Nd) (A : Option Addr) (n c : Nat) (k : Bs) (A' : Option Addr) (n' c' : Nat) (most : Int) (w w2 : World) (s : SkL w2 g h L) (hk : Rd w2 A n k)
    (hx : Ext ((w.alloc (.cells #[.pointer (some ⟨g, 0, none⟩)] 28)).alloc (.cells #[.slice A n c] 22)) w2) (hw : RdL w2 A' n' ((L.map Nd.x).dropWhile fun y => decide (cmpK y.key k < 0))) :
    Calls Try.prog 18 #[.func (.func 42) #[] #[.pointer (some ⟨w.heap.size, 0, none⟩), .pointer (some ⟨w.heap.size + 1, 0, none⟩)], .slice A' n' c', .int .i64 most] w2 fun e w' => e = .returned (.bool true) ∧ Ext w2 w' := by
  have hc : (fun nd : Nd => decide (cmpK nd.x.key k < 0)) = (fun y : Ent => decide (cmpK y.key k < 0)) ∘ Nd.x := rfl
  obtain ⟨t1, t2⟩ := takeW_map Nd.x (fun y : Ent => decide (cmpK y.key k < 0)) L
  rw [← hc] at t1 t2
  rw [t2] at hw
  refine goes_any _ _ ((L.dropWhile fun nd => decide (cmpK nd.x.key k < 0)).map Nd.x) A' n' c' most w2 (enters_of Try.func42 (by kernel_rfl) rfl) (fun S W hS hW => ?_) hw
  have h0 := cnew w (.pointer (some ⟨g, 0, none⟩)) 28
  have h1 := cnew (w.alloc (.cells #[.pointer (some ⟨g, 0, none⟩)] 28)) (.slice A n c) 22
  rw [World.size_alloc] at h1
  refine from1_seq g h w.heap.size (w.heap.size + 1) L (L.takeWhile fun nd => decide (cmpK nd.x.key k < 0)) (L.dropWhile fun nd => decide (cmpK nd.x.key k < 0)) A n c k S w2 W s hk (List.takeWhile_append_dropWhile ..).symm ?_ (dropK_not s.up) hW hS ?_ ?_
  · intro a ha; have := takeW_true _ L a ha; simpa using this
  · exact hW.keeps _ _ _ (hx.keeps _ _ _ ((Ext.alloc (Ext.rfl_ _) _).keeps _ _ _ h0.1))
  · exact hW.keeps _ _ _ (hx.keeps _ _ _ h1.1)

/-- What a level holds. -/
def lvl (xs : List Ent) (z : Int) : List Ent := if 0 ≤ z ∧ z < 8 then xs.filter fun y => decide (z.toNat < ht y) else []
theorem goesLevel_any (g h : Nat) (L : List Nd) (z : Int) (A' : Option Addr) (n' c' : Nat) (most : Int) (w w2 : World) (s : SkL w2 g h L)
    (hx : Ext ((w.alloc (.cells #[.pointer (some ⟨g, 0, none⟩)] 28)).alloc (.cells #[.int .i64 z] 3)) w2) (hw : RdL w2 A' n' (lvl (L.map Nd.x) z)) :
    Calls Try.prog 18 #[.func (.func 51) #[] #[.pointer (some ⟨w.heap.size, 0, none⟩), .pointer (some ⟨w.heap.size + 1, 0, none⟩)], .slice A' n' c', .int .i64 most] w2 fun e w' => e = .returned (.bool true) ∧ Ext w2 w' := by
  have h0 := cnew w (.pointer (some ⟨g, 0, none⟩)) 28
  have h1 := cnew (w.alloc (.cells #[.pointer (some ⟨g, 0, none⟩)] 28)) (.int .i64 z) 3
  rw [World.size_alloc] at h1
  have g0 : w2.cell? ⟨w.heap.size, 0, none⟩ = some (.pointer (some ⟨g, 0, none⟩)) := hx.keeps _ _ _ ((Ext.alloc (Ext.rfl_ _) _).keeps _ _ _ h0.1)
  have g1 : w2.cell? ⟨w.heap.size + 1, 0, none⟩ = some (.int .i64 z) := hx.keeps _ _ _ h1.1
  by_cases hz : 0 ≤ z ∧ z < 8
  · obtain ⟨m, rfl⟩ : ∃ m : Nat, z = m := ⟨z.toNat, by omega⟩
    have hl : lvl (L.map Nd.x) (m : Int) = (L.filter fun nd => decide (m < ht nd.x)).map Nd.x := by
      unfold lvl
      rw [if_pos hz, List.filter_map]
      rfl
    rw [hl] at hw
    exact goes_any _ _ _ A' n' c' most w2 (enters_of Try.func51 (by kernel_rfl) rfl) (fun S W hS hW => level1_seq w.heap.size (w.heap.size + 1) m (by omega) g h L S w2 W s hW hS (hW.keeps _ _ _ g0) (hW.keeps _ _ _ g1)) hw
  · have hl : lvl (L.map Nd.x) z = [] := if_neg hz
    rw [hl] at hw
    exact goes_any _ _ _ A' n' c' most w2 (enters_of Try.func51 (by kernel_rfl) rfl) (fun S W hS hW => level1_no w.heap.size (w.heap.size + 1) z g h L S w2 W s hW hz (hW.keeps _ _ _ g0) (hW.keeps _ _ _ g1)) hw

end Go.Proofs.Ytddaagldelcbeaa
