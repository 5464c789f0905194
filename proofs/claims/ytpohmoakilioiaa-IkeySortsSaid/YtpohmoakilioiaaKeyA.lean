/- Contracts of ikey.Compare, Same, Copy, May, of bytes.Clone. Conditions: the entries' slices read as bytes. -/
import Derived.Test.YtpohmoakilioiaaCmp
import Derived.BigQuiet
import Derived.Deep.QuietTactic
import Derived.StillTailTactics
import Derived.Deep.RegionHeld3
import Derived.Deep.RegionWith
namespace Go.Proofs.Ytpohmoakilioiaa
set_option linter.unusedSimpArgs false
set_option linter.unusedVariables false
set_option maxRecDepth 100000
open Go.RowKit

/-- A block of four cells (an entry's box) in a later world: its cells, none frozen. -/
theorem box4 {W w' : World} {g : Nat} {t : TypeId} {a b c d : Value} (h : W.heap[g]? = some (.cells #[a, b, c, d] t (0, 0))) (hx : Ext W w') :
    w'.cell? ⟨g, 0, none⟩ = some a ∧ w'.cell? ⟨g, 1, none⟩ = some b ∧ w'.cell? ⟨g, 2, none⟩ = some c ∧ w'.cell? ⟨g, 3, none⟩ = some d ∧
    w'.frozen? ⟨g, 0, none⟩ = false ∧ w'.frozen? ⟨g, 1, none⟩ = false ∧ w'.frozen? ⟨g, 2, none⟩ = false ∧ w'.frozen? ⟨g, 3, none⟩ = false := by
  have hg : w'.heap[g]? = some (.cells #[a, b, c, d] t (0, 0)) := ((Ext.below hx).block g (Array.getElem?_eq_some_iff.1 h).1).trans h
  simp [World.cell?, World.frozen?, hg]
theorem two_new (w : World) (o o' : Obj) : ((w.alloc o).alloc o').heap[w.heap.size]? = some o ∧ ((w.alloc o).alloc o').heap[w.heap.size + 1]? = some o' := by
  have h1 := heap_alloc_new (w.alloc o) o'
  rw [World.size_alloc] at h1
  exact ⟨(Below.heap_alloc _ _ _ (by simp)).trans (heap_alloc_new w o), h1⟩

/-- The reach of one slice: 2^47 - 4096 bytes. -/
def B47 : Nat := 140737488351232

/-- A value of type api.Entry that reads as x. -/
def RdE (w : World) (v : Value) (x : Ent) : Prop :=
  ∃ A n c A' n' c', v = .agg #[.slice A n c, .int .i64 x.seq, .int .i64 x.kind, .slice A' n' c'] ∧ Rd w A n x.key ∧ Rd w A' n' x.val ∧
    n ≤ c ∧ n ≤ B47 ∧ n' ≤ c' ∧ n' ≤ B47

theorem RdE.ext {w w' : World} {v : Value} {x : Ent} (h : RdE w v x) (he : Ext w w') : RdE w' v x := by
  obtain ⟨A, n, c, A', n', c', rfl, h1, h2, h3⟩ := h
  exact ⟨A, n, c, A', n', c', rfl, h1.ext he, h2.ext he, h3⟩

theorem Rd.alloc {w : World} {A : Option Addr} {n : Nat} {x : Bs} (h : Rd w A n x) (o : Obj) : Rd (w.alloc o) A n x := h.ext (Ext.alloc (Ext.rfl_ _) o)
theorem Rd.drew {w : World} {A : Option Addr} {n : Nat} {x : Bs} (h : Rd w A n x) : Rd w.drew A n x := h.ext (Ext.drew (Ext.rfl_ _))

set_option maxHeartbeats 400000 in
theorem compare_any (u v : Value) (x y : Ent) (w : World) (hx : RdE w u x) (hy : RdE w v y) :
    Calls Try.prog 16 #[u, v] w fun e w' => e = .returned (.int .i64 (cmpE x y)) ∧ Ext w w' := by
  obtain ⟨A, n, c, A', n', c', rfl, hx1, _, _⟩ := hx
  obtain ⟨B, m, d, B', m', d', rfl, hy1, _, _⟩ := hy
  go_enter Try.func16, Try.ntmps16
  go_wp2
  go_region_held3 (fun w' => w'.cell? ⟨w.heap.size, 0, none⟩ = some (.slice A n c) ∧ w'.cell? ⟨w.heap.size + 1, 0, none⟩ = some (.slice B m d) ∧ w'.cell? ⟨w.heap.size + 1, 1, none⟩ = some (.int .i64 y.seq) ∧ w'.cell? ⟨w.heap.size, 1, none⟩ = some (.int .i64 x.seq) ∧ Rd w' A n x.key ∧ Rd w' B m y.key)
    (first | (go_keep; done) | (refine ⟨?_, ?_, ?_, ?_, ?_, ?_⟩ <;> (first | (go_keep; done) | exact hx1.ext (by with_reducible (repeat (first | exact Ext.rfl_ _ | assumption | refine Ext.drew ?_ | refine Ext.drewN ?_ _ | refine Ext.alloc ?_ _ | refine Ext.trans ?_ (by assumption)))) | exact hy1.ext (by with_reducible (repeat (first | exact Ext.rfl_ _ | assumption | refine Ext.drew ?_ | refine Ext.drewN ?_ _ | refine Ext.alloc ?_ _ | refine Ext.trans ?_ (by assumption)))))))
    (first | (go_at_call 28; refine (cmpKeys_any _ _ _ _ _ _ x.key y.key _ ?_ ?_).mono ?_; (simp [*]); (simp [*]); rintro e w' ⟨rfl, rfl⟩)
           | (go_at_call 48; refine (cmpInt_any _ _ _).mono ?_; rintro e w' ⟨rfl, rfl⟩)
           | (go_at_call 47; refine (cmpOr_any _ (cmpK x.key y.key) (cmpI y.seq x.seq) _ ?_ ?_).mono ?_; (go_simp); (go_simp); rintro e w' ⟨rfl, rfl⟩))
  go_wp2
  go_ret
  exact ⟨rfl, (by with_reducible (repeat (first | exact Ext.rfl_ _ | assumption | refine Ext.drew ?_ | refine Ext.drewN ?_ _ | refine Ext.alloc ?_ _ | refine Ext.trans ?_ (by assumption))))⟩

def sameE (x y : Ent) : Bool := decide (x = y)

set_option maxRecDepth 100000 in
set_option maxHeartbeats 1000000 in
theorem same_any (u v : Value) (x y : Ent) (w : World) (hx : RdE w u x) (hy : RdE w v y) :
    Calls Try.prog 30 #[u, v] w fun e w' => e = .returned (.bool (decide (x = y))) ∧ Ext w w' := by
  obtain ⟨A, n, c, A', n', c', rfl, hx1, hx2, _⟩ := hx
  obtain ⟨B, m, d, B', m', d', rfl, hy1, hy2, _⟩ := hy
  obtain ⟨xk, xs, xn, xv⟩ := x
  obtain ⟨yk, ys, yn, yv⟩ := y
  dsimp only at *
  by_cases h1 : xk = yk
  · by_cases h2 : xs = ys
    · by_cases h3 : xn = yn
      · subst h1 h2 h3
        go_enter Try.func30, Try.ntmps30
        go_wp2_with fail
        refine (bequal_any A B n c m d xk xk _ (hx1.ext (by with_reducible (repeat (first | exact Ext.rfl_ _ | assumption | refine Ext.drew ?_ | refine Ext.drewN ?_ _ | refine Ext.alloc ?_ _ | refine Ext.trans ?_ (by assumption))))) (hy1.ext (by with_reducible (repeat (first | exact Ext.rfl_ _ | assumption | refine Ext.drew ?_ | refine Ext.drewN ?_ _ | refine Ext.alloc ?_ _ | refine Ext.trans ?_ (by assumption)))))).mono ?_
        rintro e w' ⟨rfl, rfl⟩
        go_wp2_with fail
        refine (bequal_any A' B' n' c' m' d' xv yv _ (hx2.ext (by with_reducible (repeat (first | exact Ext.rfl_ _ | assumption | refine Ext.drew ?_ | refine Ext.drewN ?_ _ | refine Ext.alloc ?_ _ | refine Ext.trans ?_ (by assumption))))) (hy2.ext (by with_reducible (repeat (first | exact Ext.rfl_ _ | assumption | refine Ext.drew ?_ | refine Ext.drewN ?_ _ | refine Ext.alloc ?_ _ | refine Ext.trans ?_ (by assumption)))))).mono ?_
        rintro e w' ⟨rfl, rfl⟩
        go_wp2
        go_ret
        exact ⟨ret_bool (by simp), (by with_reducible (repeat (first | exact Ext.rfl_ _ | assumption | refine Ext.drew ?_ | refine Ext.drewN ?_ _ | refine Ext.alloc ?_ _ | refine Ext.trans ?_ (by assumption))))⟩
      · subst h1 h2
        have h3' : (xn == yn) = false := by simpa using h3
        go_enter Try.func30, Try.ntmps30
        go_wp2_with fail
        refine (bequal_any A B n c m d xk xk _ (hx1.ext (by with_reducible (repeat (first | exact Ext.rfl_ _ | assumption | refine Ext.drew ?_ | refine Ext.drewN ?_ _ | refine Ext.alloc ?_ _ | refine Ext.trans ?_ (by assumption))))) (hy1.ext (by with_reducible (repeat (first | exact Ext.rfl_ _ | assumption | refine Ext.drew ?_ | refine Ext.drewN ?_ _ | refine Ext.alloc ?_ _ | refine Ext.trans ?_ (by assumption)))))).mono ?_
        rintro e w' ⟨rfl, rfl⟩
        go_wp2
        go_ret
        exact ⟨ret_bool (by simp [h3]), (by with_reducible (repeat (first | exact Ext.rfl_ _ | assumption | refine Ext.drew ?_ | refine Ext.drewN ?_ _ | refine Ext.alloc ?_ _ | refine Ext.trans ?_ (by assumption))))⟩
    · subst h1
      have h2' : (xs == ys) = false := by simpa using h2
      go_enter Try.func30, Try.ntmps30
      go_wp2_with fail
      refine (bequal_any A B n c m d xk xk _ (hx1.ext (by with_reducible (repeat (first | exact Ext.rfl_ _ | assumption | refine Ext.drew ?_ | refine Ext.drewN ?_ _ | refine Ext.alloc ?_ _ | refine Ext.trans ?_ (by assumption))))) (hy1.ext (by with_reducible (repeat (first | exact Ext.rfl_ _ | assumption | refine Ext.drew ?_ | refine Ext.drewN ?_ _ | refine Ext.alloc ?_ _ | refine Ext.trans ?_ (by assumption)))))).mono ?_
      rintro e w' ⟨rfl, rfl⟩
      go_wp2
      go_ret
      exact ⟨ret_bool (by simp [h2]), (by with_reducible (repeat (first | exact Ext.rfl_ _ | assumption | refine Ext.drew ?_ | refine Ext.drewN ?_ _ | refine Ext.alloc ?_ _ | refine Ext.trans ?_ (by assumption))))⟩
  · go_enter Try.func30, Try.ntmps30
    go_wp2_with fail
    refine (bequal_any A B n c m d xk yk _ (hx1.ext (by with_reducible (repeat (first | exact Ext.rfl_ _ | assumption | refine Ext.drew ?_ | refine Ext.drewN ?_ _ | refine Ext.alloc ?_ _ | refine Ext.trans ?_ (by assumption))))) (hy1.ext (by with_reducible (repeat (first | exact Ext.rfl_ _ | assumption | refine Ext.drew ?_ | refine Ext.drewN ?_ _ | refine Ext.alloc ?_ _ | refine Ext.trans ?_ (by assumption)))))).mono ?_
    rintro e w' ⟨rfl, rfl⟩
    go_wp2
    go_ret
    exact ⟨ret_bool (by simp [h1]), (by with_reducible (repeat (first | exact Ext.rfl_ _ | assumption | refine Ext.drew ?_ | refine Ext.drewN ?_ _ | refine Ext.alloc ?_ _ | refine Ext.trans ?_ (by assumption))))⟩

/-- What a copy of a slice of bytes is: in memory of the call's own. -/
def CopyB (w w' : World) (v' : Value) (x : Bs) : Prop :=
  ∃ A c, v' = .slice A x.length c ∧ w'.ownsRow w.heap.size 5 1 (.slice A x.length c) x.length (x.map fun b => .int .u8 (b.toNat : Int)) ∧ x.length ≤ c

theorem own_form {w : World} {base : Nat} {e : TypeId} {size n : Nat} {v : Value} {xs : List Value} (h : w.ownsRow base e size v n xs) : ∃ A c, v = .slice A n c ∧ n ≤ c := by
  rcases h.2 with ⟨rfl, rfl⟩ | ⟨g, cap, cur, rfl, _, _, hc, _⟩
  · exact ⟨none, 0, rfl, Nat.le_refl _⟩
  · exact ⟨_, _, rfl, hc⟩

theorem Try.info5x : (Try.prog.info? 5).map (fun i => (i.zero, i.size, i.bytes)) = some (some (.int .u8 0), 1, 1) := by kernel_rfl

set_option maxHeartbeats 1000000 in
theorem bclone_any (A : Option Addr) (n c : Nat) (x : Bs) (w : World) (hx : Rd w A n x) (hn : n ≤ B47) :
    Calls Try.prog 64 #[.slice A n c] w fun e w' => ∃ v', e = .returned v' ∧ CopyB w w' v' x ∧ (v' = .slice none 0 0 ↔ A = none) ∧ Ext w w' := by
  have q22 : ∀ (w : World) (a : Option Addr) (n c n' c' : Nat), (binOp .eql 22 (.slice a n c) (.slice none n' c')).run Try.prog w = .ok (.bool a.isNone) w := fun w a n c n' c' => Lib.run_eql_slice_nil w _ _ a n c n' c' Try.underlying22
  obtain ⟨i0, hi, hz0, hz1, hz2⟩ := info_parts Try.info5x
  have hxl := hx.1
  cases A with
  | none =>
    have h0 : n = 0 := by
      rcases Nat.eq_zero_or_pos n with h | h
      · exact h
      · obtain ⟨b, o, e, _⟩ := hx.2 h
        cases e
    subst h0
    obtain rfl := hx.nil_eq
    clear hx hxl
    go_enter Try.func64, Try.ntmps64
    go_wp2
    go_ret
    exact ⟨_, rfl, ⟨none, 0, rfl, World.ownsRow_nil _ _ _ _, Nat.le_refl _⟩, by simp, Ext.rfl_ _⟩
  | some a =>
    have hnews : ∀ j u, (x.map fun b => Value.int .u8 (b.toNat : Int))[j]? = some u → w.cell? (a.add j) = some u := by
      intro j u hj
      have hjn : j < x.length := by
        have := (List.getElem?_eq_some_iff.1 hj).1
        simpa using this
      obtain ⟨b, o, e, hc⟩ := hx.2 (by omega)
      obtain rfl := Option.some.inj e
      have e2 : (⟨b, o, none⟩ : Addr).add j = ⟨b, o + j, none⟩ := by unfold Addr.add; split <;> simp_all
      rw [e2, hc j hjn]
      simpa [List.getElem?_eq_getElem hjn] using hj
    have H := Lib.hid hnews
    have HX := Lib.hid hxl
    clear hnews hx hxl
    go_enter Try.func64, Try.ntmps64
    go_wp2_with (at_builtin; refine wpList_append_own _ rfl _ _ 22 rfl w.heap.size 5 i0 (.int .u8 0) 1 1 Try.underlying22 hi hz0 hz1 hz2 rfl (by decide) _ _ _ rfl (World.ownsRow_made w #[] 0 (Nat.le_refl _) (Nat.zero_le _) rfl) a n c (x.map fun b => Value.int .u8 (b.toNat : Int)) rfl ?qc1 ?qc2 ?qc3 ?qc4 ?qc5 ?qc6 ?_)
    case qc1 => simp [HX.out]
    case qc2 => intro j u hj; exact (Ext.alloc (Ext.rfl_ w) _).keeps' (H.out j u hj)
    case qc3 => intro u hu; obtain ⟨x, _, rfl⟩ := List.mem_map.1 hu; rfl
    case qc4 => unfold maxLen; unfold B47 at hn; omega
    case qc5 => unfold B47 at hn; omega
    case qc6 => simp
    intro v' w1 hown hgrow hnil
    go_wp2
    go_ret
    try simp only [Nat.zero_add, List.nil_append] at hown
    obtain ⟨A', c', hv, hc'⟩ := own_form hown
    refine ⟨v', rfl, ⟨A', c', by rw [hv, HX.out], by rw [HX.out, ← hv]; exact hown, by rw [HX.out]; exact hc'⟩, ?_, ?_⟩
    · simp; first | exact hnil | (intro e; exact absurd (hnil.1 e).1 (by simp))
    · exact (Ext.alloc (Ext.rfl_ w) _).grown hgrow (by intro k hk; simp [Value.ownBlock] at hk; omega)

theorem CopyB.rd {w w' : World} {v' : Value} {x : Bs} (h : CopyB w w' v' x) : ∃ A c, v' = .slice A x.length c ∧ Rd w' A x.length x ∧ x.length ≤ c ∧ Hi w.heap.size A x.length := by
  obtain ⟨A, c, rfl, hown, hc⟩ := h
  exact ⟨A, c, rfl, Rd.of_own hown, hc, Hi.of_own hown⟩

set_option maxRecDepth 100000 in
set_option maxHeartbeats 1000000 in
theorem copy_any (v : Value) (x : Ent) (w : World) (hx : RdE w v x) :
    Calls Try.prog 32 #[v] w fun e w' => ∃ v', e = .returned v' ∧ RdE w' v' x ∧ Ext w w' := by
  obtain ⟨A, n, c, A', n', c', rfl, hx1, hx2, h1, h2, h3, h4⟩ := hx
  have hb := two_new w (.cells #[.slice A n c, .int .i64 x.seq, .int .i64 x.kind, .slice A' n' c'] 25) (.cells #[.slice none 0 0, .int .i64 0, .int .i64 0, .slice none 0 0] 25)
  have hbox1 := Lib.hid hb.1
  have hbox2 := Lib.hid hb.2
  clear hb
  go_enter Try.func32, Try.ntmps32
  go_wp2
  go_region_with (first
    | (go_at_call_of 64 (Value.slice A n c); refine (bclone_any A n c x.key _ (hx1.ext (by with_reducible (repeat (first | exact Ext.rfl_ _ | assumption | refine Ext.drew ?_ | refine Ext.drewN ?_ _ | refine Ext.alloc ?_ _ | refine Ext.trans ?_ (by assumption))))) (by omega)).mono ?_; rintro e w1 ⟨v1, rfl, hv1, _, hw1⟩; obtain ⟨A1, c1, rfl, hr1, hc1, hi1⟩ := hv1.rd; obtain ⟨e0, e1, e2, e3, f0, f1, f2, f3⟩ := box4 hbox1.out (w' := w1) (by with_reducible (repeat (first | exact Ext.rfl_ _ | assumption | refine Ext.drew ?_ | refine Ext.drewN ?_ _ | refine Ext.alloc ?_ _ | refine Ext.trans ?_ (by assumption)))); obtain ⟨r0, r1, r2, r3, s0, s1, s2, s3⟩ := box4 hbox2.out (w' := w1) (by with_reducible (repeat (first | exact Ext.rfl_ _ | assumption | refine Ext.drew ?_ | refine Ext.drewN ?_ _ | refine Ext.alloc ?_ _ | refine Ext.trans ?_ (by assumption)))))
    | (go_at_call_of 64 (Value.slice A' n' c'); refine (bclone_any A' n' c' x.val _ (hx2.ext (by with_reducible (repeat (first | exact Ext.rfl_ _ | assumption | refine Ext.drew ?_ | refine Ext.drewN ?_ _ | refine Ext.alloc ?_ _ | refine Ext.trans ?_ (by assumption))))) (by omega)).mono ?_; rintro e w2 ⟨v2, rfl, hv2, _, hw2⟩; obtain ⟨A2, c2, rfl, hr2, hc2, hi2⟩ := hv2.rd; obtain ⟨e0, e1, e2, e3, f0, f1, f2, f3⟩ := box4 hbox1.out (w' := w2) (by with_reducible (repeat (first | exact Ext.rfl_ _ | assumption | refine Ext.drew ?_ | refine Ext.drewN ?_ _ | refine Ext.alloc ?_ _ | refine Ext.trans ?_ (by assumption)))); obtain ⟨r0, r1, r2, r3, s0, s1, s2, s3⟩ := box4 hbox2.out (w' := w2) (by with_reducible (repeat (first | exact Ext.rfl_ _ | assumption | refine Ext.drew ?_ | refine Ext.drewN ?_ _ | refine Ext.alloc ?_ _ | refine Ext.trans ?_ (by assumption))))))
  all_goals
    have k1 : Hi (w.heap.size + 2) A1 x.key.length := hi1.mono (by simp)
    have k2 : Hi (w.heap.size + 2) A2 x.val.length := hi2.mono (by have := hw1.size; (try simp at this); omega)
    go_wp2
    refine bodyPost_ret (v := .agg #[.slice A1 x.key.length c1, .int .i64 x.seq, .int .i64 x.kind, .slice A2 x.val.length c2]) ?_ rfl ?_
    · simp [results, Try.f32, go_sem, r0, r1, r2, r3]
    have q1 : x.key.length ≤ B47 := by rw [hx1.1]; exact h2
    have q2 : x.val.length ≤ B47 := by rw [hx2.1]; exact h4
    refine ⟨_, rfl, ⟨A1, x.key.length, c1, A2, x.val.length, c2, rfl, ?_, ?_, hc1, q1, hc2, q2⟩, ?_⟩
    · exact (by with_reducible (repeat (first | exact hr1 | refine Rd.setCell ?_ k1 (by simp) _ | refine Rd.ext ?_ (by assumption))))
    · exact (by with_reducible (repeat (first | exact hr2 | refine Rd.setCell ?_ k2 (by simp) _ | refine Rd.ext ?_ (by assumption))))
    · exact (by with_reducible (repeat (first | exact Ext.rfl_ _ | assumption | refine Ext.drew ?_ | refine Ext.drewN ?_ _ | refine Ext.alloc ?_ _ | refine Ext.setCell ?_ (by first | (simp; done) | (simp; omega)) _ | refine Ext.trans ?_ (by assumption))))

end Go.Proofs.Ytpohmoakilioiaa
