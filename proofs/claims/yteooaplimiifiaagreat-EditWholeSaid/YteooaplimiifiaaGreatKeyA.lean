/- Contracts of ikey.Compare, Same, Copy, May, of bytes.Clone. Conditions: the entries' slices read as bytes. -/
import Derived.Test.YteooaplimiifiaaGreatCmp
import Derived.BigQuiet
import Derived.Deep.QuietTactic
import Derived.StillTailTactics
import Derived.Deep.RegionHeld3
import Derived.Deep.RegionWith
namespace Go.Proofs.YteooaplimiifiaaGreat
set_option linter.unusedSimpArgs false
set_option linter.unusedVariables false
set_option maxRecDepth 100000
open Go.RowKit

/-- A block of four cells (an entry's box) in a later world: its cells, none frozen. -/
theorem box4 {W w' : World} {g : Nat} {t : TypeId} {a b c d : Value} (h : W.heap[g]? = some (.cells #[a, b, c, d] t (0, 0))) (hx : Ext W w') :
    w'.cell? ⟨g, 0, none⟩ = some a ∧ w'.cell? ⟨g, 1, none⟩ = some b ∧ w'.cell? ⟨g, 2, none⟩ = some c ∧ w'.cell? ⟨g, 3, none⟩ = some d ∧
    w'.frozen? ⟨g, 0, none⟩ = false ∧ w'.frozen? ⟨g, 1, none⟩ = false ∧ w'.frozen? ⟨g, 2, none⟩ = false ∧ w'.frozen? ⟨g, 3, none⟩ = false := by
  have hg : w'.heap[g]? = some (.cells #[a, b, c, d] t (0, 0)) := ((Ext.below hx).block g (Array.getElem?_eq_some_iff.1 h).1).trans h
  simp [World.cell?, World.frozen?, hg]
theorem two_new (w : World) (o o' : Obj) : ((w.alloc o).alloc o').heap[w.heap.size]? = some o ∧ ((w.alloc o).alloc o').heap[w.heap.size + 1]? = some o' := by
  have h1 := heap_alloc_new (w.alloc o) o'
  rw [World.size_alloc] at h1
  exact ⟨(Below.heap_alloc _ _ _ (by simp)).trans (heap_alloc_new w o), h1⟩

/-- The reach of one slice: 2^47 - 4096 bytes. -/
def B47 : Nat := 140737488351232

/-- A value of type api.Entry that reads as x. -/
def RdE (w : World) (v : Value) (x : Ent) : Prop :=
  ∃ A n c A' n' c', v = .agg #[.slice A n c, .int .i64 x.seq, .int .i64 x.kind, .slice A' n' c'] ∧ Rd w A n x.key ∧ Rd w A' n' x.val ∧
    n ≤ c ∧ n ≤ B47 ∧ n' ≤ c' ∧ n' ≤ B47

theorem RdE.ext {w w' : World} {v : Value} {x : Ent} (h : RdE w v x) (he : Ext w w') : RdE w' v x := by
  obtain ⟨A, n, c, A', n', c', rfl, h1, h2, h3⟩ := h
  exact ⟨A, n, c, A', n', c', rfl, h1.ext he, h2.ext he, h3⟩

theorem Rd.alloc {w : World} {A : Option Addr} {n : Nat} {x : Bs} (h : Rd w A n x) (o : Obj) : Rd (w.alloc o) A n x := h.ext (Ext.alloc (Ext.rfl_ _) o)
theorem Rd.drew {w : World} {A : Option Addr} {n : Nat} {x : Bs} (h : Rd w A n x) : Rd w.drew A n x := h.ext (Ext.drew (Ext.rfl_ _))


def sameE (x y : Ent) : Bool := decide (x = y)


/-- What a copy of a slice of bytes is: in memory of the call's own. -/
def CopyB (w w' : World) (v' : Value) (x : Bs) : Prop :=
  ∃ A c, v' = .slice A x.length c ∧ w'.ownsRow w.heap.size 5 1 (.slice A x.length c) x.length (x.map fun b => .int .u8 (b.toNat : Int)) ∧ x.length ≤ c

theorem own_form {w : World} {base : Nat} {e : TypeId} {size n : Nat} {v : Value} {xs : List Value} (h : w.ownsRow base e size v n xs) : ∃ A c, v = .slice A n c ∧ n ≤ c := by
  rcases h.2 with ⟨rfl, rfl⟩ | ⟨g, cap, cur, rfl, _, _, hc, _⟩
  · exact ⟨none, 0, rfl, Nat.le_refl _⟩
  · exact ⟨_, _, rfl, hc⟩

theorem Tryz.info5x : (Tryz.prog.info? 5).map (fun i => (i.zero, i.size, i.bytes)) = some (some (.int .u8 0), 1, 1) := by kernel_rfl

set_option maxHeartbeats 1000000 in
theorem bclone_any (A : Option Addr) (n c : Nat) (x : Bs) (w : World) (hx : Rd w A n x) (hn : n ≤ B47) :
    Calls Tryz.prog 43 #[.slice A n c] w fun e w' => ∃ v', e = .returned v' ∧ CopyB w w' v' x ∧ (v' = .slice none 0 0 ↔ A = none) ∧ Ext w w' := by
  have q22 : ∀ (w : World) (a : Option Addr) (n c n' c' : Nat), (binOp .eql 35 (.slice a n c) (.slice none n' c')).run Tryz.prog w = .ok (.bool a.isNone) w := fun w a n c n' c' => Lib.run_eql_slice_nil w _ _ a n c n' c' Tryz.underlying35
  obtain ⟨i0, hi, hz0, hz1, hz2⟩ := info_parts Tryz.info5x
  have hxl := hx.1
  cases A with
  | none =>
    have h0 : n = 0 := by
      rcases Nat.eq_zero_or_pos n with h | h
      · exact h
      · obtain ⟨b, o, e, _⟩ := hx.2 h
        cases e
    subst h0
    obtain rfl := hx.nil_eq
    clear hx hxl
    go_enter Tryz.func43, Tryz.ntmps43
    go_wp2
    go_ret
    exact ⟨_, rfl, ⟨none, 0, rfl, World.ownsRow_nil _ _ _ _, Nat.le_refl _⟩, by simp, Ext.rfl_ _⟩
  | some a =>
    have hnews : ∀ j u, (x.map fun b => Value.int .u8 (b.toNat : Int))[j]? = some u → w.cell? (a.add j) = some u := by
      intro j u hj
      have hjn : j < x.length := by
        have := (List.getElem?_eq_some_iff.1 hj).1
        simpa using this
      obtain ⟨b, o, e, hc⟩ := hx.2 (by omega)
      obtain rfl := Option.some.inj e
      have e2 : (⟨b, o, none⟩ : Addr).add j = ⟨b, o + j, none⟩ := by unfold Addr.add; split <;> simp_all
      rw [e2, hc j hjn]
      simpa [List.getElem?_eq_getElem hjn] using hj
    have H := Lib.hid hnews
    have HX := Lib.hid hxl
    clear hnews hx hxl
    go_enter Tryz.func43, Tryz.ntmps43
    go_wp2_with (at_builtin; refine wpList_append_own _ rfl _ _ 35 rfl w.heap.size 5 i0 (.int .u8 0) 1 1 Tryz.underlying35 hi hz0 hz1 hz2 rfl (by decide) _ _ _ rfl (World.ownsRow_made w #[] 0 (Nat.le_refl _) (Nat.zero_le _) rfl) a n c (x.map fun b => Value.int .u8 (b.toNat : Int)) rfl ?qc1 ?qc2 ?qc3 ?qc4 ?qc5 ?qc6 ?_)
    case qc1 => simp [HX.out]
    case qc2 => intro j u hj; exact (Ext.alloc (Ext.rfl_ w) _).keeps' (H.out j u hj)
    case qc3 => intro u hu; obtain ⟨x, _, rfl⟩ := List.mem_map.1 hu; rfl
    case qc4 => unfold maxLen; unfold B47 at hn; omega
    case qc5 => unfold B47 at hn; omega
    case qc6 => simp
    intro v' w1 hown hgrow hnil
    go_wp2
    go_ret
    try simp only [Nat.zero_add, List.nil_append] at hown
    obtain ⟨A', c', hv, hc'⟩ := own_form hown
    refine ⟨v', rfl, ⟨A', c', by rw [hv, HX.out], by rw [HX.out, ← hv]; exact hown, by rw [HX.out]; exact hc'⟩, ?_, ?_⟩
    · simp; first | exact hnil | (intro e; exact absurd (hnil.1 e).1 (by simp))
    · exact (Ext.alloc (Ext.rfl_ w) _).grown hgrow (by intro k hk; simp [Value.ownBlock] at hk; omega)

theorem CopyB.rd {w w' : World} {v' : Value} {x : Bs} (h : CopyB w w' v' x) : ∃ A c, v' = .slice A x.length c ∧ Rd w' A x.length x ∧ x.length ≤ c ∧ Hi w.heap.size A x.length := by
  obtain ⟨A, c, rfl, hown, hc⟩ := h
  exact ⟨A, c, rfl, Rd.of_own hown, hc, Hi.of_own hown⟩


end Go.Proofs.YteooaplimiifiaaGreat
