/- Lists of entries in memory; ikey.behind. Conditions: the list and the entry read. -/
import Derived.Test.YtpohmoakilioiaaKeyC
namespace Go.Proofs.Ytpohmoakilioiaa
set_option linter.unusedSimpArgs false
set_option linter.unusedVariables false
set_option maxRecDepth 100000
open Go.RowKit

/-- The reach of a list of entries. -/
def B41 : Nat := 2199023255552

/-- A slice of entries (address, length) that reads as xs. -/
def RdL (w : World) (A : Option Addr) (n : Nat) (xs : List Ent) : Prop :=
  xs.length = n ∧ n ≤ B41 ∧ (0 < n → ∃ b o, A = some ⟨b, o, none⟩ ∧ ∀ k (h : k < xs.length), ∃ A1 n1 c1 A2 n2 c2,
    (w.cell? ⟨b, o + k * 4, none⟩ = some (.slice A1 n1 c1) ∧ w.cell? ⟨b, o + k * 4 + 1, none⟩ = some (.int .i64 xs[k].seq) ∧ w.cell? ⟨b, o + k * 4 + 2, none⟩ = some (.int .i64 xs[k].kind) ∧ w.cell? ⟨b, o + k * 4 + 3, none⟩ = some (.slice A2 n2 c2)) ∧
    RdE w (.agg #[.slice A1 n1 c1, .int .i64 xs[k].seq, .int .i64 xs[k].kind, .slice A2 n2 c2]) xs[k])

theorem RdL.nil (w : World) (A : Option Addr) : RdL w A 0 [] := ⟨rfl, Nat.zero_le _, fun h => absurd h (by omega)⟩

theorem RdL.ext {w w' : World} {A : Option Addr} {n : Nat} {xs : List Ent} (h : RdL w A n xs) (he : Ext w w') : RdL w' A n xs :=
  ⟨h.1, h.2.1, fun hn => by
    obtain ⟨b, o, e, hc⟩ := h.2.2 hn
    refine ⟨b, o, e, fun k hk => ?_⟩
    obtain ⟨A1, n1, c1, A2, n2, c2, ⟨h0, h1, h2, h3⟩, hr⟩ := hc k hk
    exact ⟨A1, n1, c1, A2, n2, c2, ⟨he.keeps _ _ _ h0, he.keeps _ _ _ h1, he.keeps _ _ _ h2, he.keeps _ _ _ h3⟩, hr.ext he⟩⟩

/-- The element at k. -/
theorem RdL.at_ {w : World} {A : Option Addr} {n : Nat} {xs : List Ent} (h : RdL w A n xs) (k : Nat) (hk : k < n) :
    ∃ b o A1 n1 c1 A2 n2 c2 x, A = some ⟨b, o, none⟩ ∧ xs[k]? = some x ∧ (w.cell? ⟨b, o + k * 4, none⟩ = some (.slice A1 n1 c1) ∧ w.cell? ⟨b, o + k * 4 + 1, none⟩ = some (.int .i64 x.seq) ∧ w.cell? ⟨b, o + k * 4 + 2, none⟩ = some (.int .i64 x.kind) ∧ w.cell? ⟨b, o + k * 4 + 3, none⟩ = some (.slice A2 n2 c2)) ∧
      RdE w (.agg #[.slice A1 n1 c1, .int .i64 x.seq, .int .i64 x.kind, .slice A2 n2 c2]) x := by
  obtain ⟨b, o, e, hc⟩ := h.2.2 (by omega)
  have hk' : k < xs.length := by rw [h.1]; exact hk
  obtain ⟨A1, n1, c1, A2, n2, c2, h1, h2⟩ := hc k hk'
  exact ⟨b, o, A1, n1, c1, A2, n2, c2, xs[k], e, List.getElem?_eq_getElem hk', h1, h2⟩

theorem RdL.take {w : World} {A : Option Addr} {n : Nat} {xs : List Ent} (h : RdL w A n xs) (k : Nat) (hk : k ≤ n) : RdL w A k (xs.take k) :=
  ⟨by rw [List.length_take, h.1]; omega, Nat.le_trans hk h.2.1, fun hn => by
    obtain ⟨b, o, e, hc⟩ := h.2.2 (by omega)
    refine ⟨b, o, e, fun j hj => ?_⟩
    have hj' : j < xs.length := by rw [List.length_take] at hj; omega
    have := hc j hj'
    simpa [List.getElem_take] using this⟩

/-- May x stand behind p? -/
def behO (p : Option Ent) (x : Ent) : Bool := mayE x && (match p with | none => true | some y => decide (cmpE y x < 0))

set_option maxRecDepth 100000 in
set_option maxHeartbeats 2000000 in
theorem behind_any (A : Option Addr) (n c : Nat) (xs : List Ent) (v : Value) (x : Ent) (w : World) (hl : RdL w A n xs) (hx : RdE w v x) :
    Calls Try.prog 86 #[.slice A n c, v] w fun e w' => e = .returned (.bool (behO xs.getLast? x)) ∧ Ext w w' := by
  have HE := Lib.hid hx
  have hxl := hl.1
  obtain ⟨B, m, d, B', m', d', rfl, _⟩ := hx
  have hb := blk1 w (.cells #[.slice B m d, .int .i64 x.seq, .int .i64 x.kind, .slice B' m' d'] 25)
  have hbox := Lib.hid hb
  clear hb
  by_cases hm : mayE x = true
  · rcases Nat.eq_zero_or_pos n with hn | hn
    · subst hn
      obtain rfl := List.eq_nil_of_length_eq_zero hxl
      go_enter Try.func86, Try.ntmps86
      go_wp2
      refine wp_region_held_drew (S := (fun w' => w'.cell? ⟨w.heap.size, 0, none⟩ = some (.slice B m d) ∧ w'.cell? ⟨w.heap.size, 1, none⟩ = some (.int .i64 x.seq) ∧ w'.cell? ⟨w.heap.size, 2, none⟩ = some (.int .i64 x.kind) ∧ w'.cell? ⟨w.heap.size, 3, none⟩ = some (.slice B' m' d') ∧ w'.frozen? ⟨w.heap.size, 0, none⟩ = false ∧ w'.frozen? ⟨w.heap.size, 1, none⟩ = false ∧ w'.frozen? ⟨w.heap.size, 2, none⟩ = false ∧ w'.frozen? ⟨w.heap.size, 3, none⟩ = false)) (by kernel_rfl) (by (try dsimp only); exact box4 hbox.out (by with_reducible (repeat (first | exact Ext.rfl_ _ | assumption | refine Ext.drew ?_ | refine Ext.drewN ?_ _ | refine Ext.alloc ?_ _ | refine Ext.trans ?_ (by assumption))))) (fun hHeld => ?_)
      refine wpAnyH_take (i := 0) (oi := ({ dst := some 5, op := .load 25 (.tmp 3), type := 25, pos := "ikey.go:90", after := #[], guard := none } : Go.Oper)) (v := ?v1) rfl (by kernel_rfl) (by kernel_rfl) (by kernel_rfl) (fun _ _ _ h => h) (Or.inl ⟨by rfl, ?hy1⟩) (by assumption) ?rest1
      case hy1 => (intro w hSw; (try dsimp only at hSw); go_simp; (try with_reducible rfl))
      (try simp only [Act.put, List.getElem_toArray, List.getElem_cons_zero, List.getElem_cons_succ, List.setIfInBounds_toArray, List.set_cons_zero, List.set_cons_succ])
      refine wpAnyH_ready (rs := [1]) (by kernel_rfl) (by simp) ?_
      refine AllReadyH.cons (o := ({ dst := some 6, op := .call { callee := .value (.func 33), args := #[.tmp 5], argTypes := #[25] }, type := 4, pos := "ikey.go:90", after := #[⟨0, .data⟩], guard := none } : Go.Oper)) rfl (fun K hK => ?_) AllReadyH.nil
      go_simp
      (go_at_call 33; refine (may_any _ x _ (HE.out.ext (by with_reducible (repeat (first | exact Ext.rfl_ _ | assumption | refine Ext.drew ?_ | refine Ext.drewN ?_ _ | refine Ext.alloc ?_ _ | refine Ext.trans ?_ (by assumption)))))).mono ?_; rintro e w1 ⟨rfl, hw1⟩)
      (try (go_wp2_with fail))
      refine hK.out _ _ (by (try dsimp only); exact box4 hbox.out (by with_reducible (repeat (first | exact Ext.rfl_ _ | assumption | refine Ext.drew ?_ | refine Ext.drewN ?_ _ | refine Ext.alloc ?_ _ | refine Ext.trans ?_ (by assumption))))) (fun hHeld => ?_)
      clear hK K
      (try simp only [Act.put, List.getElem_toArray, List.getElem_cons_zero, List.getElem_cons_succ, List.setIfInBounds_toArray, List.set_cons_zero, List.set_cons_succ])
      refine wpAnyH_take (i := 2) (oi := ({ dst := some 7, op := .move (.tmp 6), type := 4, pos := "ikey.go:90", after := #[⟨1, .data⟩, ⟨1, .chain⟩], guard := none } : Go.Oper)) (v := ?v2) rfl (by kernel_rfl) (by kernel_rfl) (by kernel_rfl) (fun _ _ _ h => h) (Or.inl ⟨by rfl, ?hy2⟩) (by assumption) ?rest2
      case hy2 => (intro w hSw; (try dsimp only at hSw); go_simp; (try with_reducible rfl))
      (try simp only [Act.put, List.getElem_toArray, List.getElem_cons_zero, List.getElem_cons_succ, List.setIfInBounds_toArray, List.set_cons_zero, List.set_cons_succ])
      refine wpAnyH_take (i := 3) (oi := ({ dst := some 8, op := .move (.tmp 0), type := 42, pos := "ikey.go:90", after := #[⟨2, .guard⟩], guard := some (2, true) } : Go.Oper)) (v := ?v3) rfl (by kernel_rfl) (by kernel_rfl) (by kernel_rfl) (fun _ _ _ h => h) (Or.inl ⟨by rfl, ?hy3⟩) (by assumption) ?rest3
      case hy3 => (intro w hSw; (try dsimp only at hSw); go_simp; (try with_reducible rfl))
      (try simp only [Act.put, List.getElem_toArray, List.getElem_cons_zero, List.getElem_cons_succ, List.setIfInBounds_toArray, List.set_cons_zero, List.set_cons_succ])
      refine wpAnyH_take (i := 4) (oi := ({ dst := some 9, op := .call { callee := .builtin .len, args := #[.tmp 8], argTypes := #[42] }, type := 3, pos := "ikey.go:90", after := #[⟨3, .data⟩, ⟨2, .guard⟩], guard := some (2, true) } : Go.Oper)) (v := ?v4) rfl (by kernel_rfl) (by kernel_rfl) (by kernel_rfl) (fun _ _ _ h => h) (Or.inl ⟨by rfl, ?hy4⟩) (by assumption) ?rest4
      case hy4 => (intro w hSw; (try dsimp only at hSw); go_simp; (try with_reducible rfl))
      (try simp only [Act.put, List.getElem_toArray, List.getElem_cons_zero, List.getElem_cons_succ, List.setIfInBounds_toArray, List.set_cons_zero, List.set_cons_succ])
      refine wpAnyH_take (i := 5) (oi := ({ dst := some 10, op := .binOp .eql 3 (.tmp 9) (.const (.int .i64 0)) 3, type := 4, pos := "ikey.go:90", after := #[⟨4, .data⟩, ⟨2, .guard⟩], guard := some (2, true) } : Go.Oper)) (v := ?v5) rfl (by kernel_rfl) (by kernel_rfl) (by kernel_rfl) (fun _ _ _ h => h) (Or.inl ⟨by rfl, ?hy5⟩) (by assumption) ?rest5
      case hy5 => (intro w hSw; (try dsimp only at hSw); go_simp; (try with_reducible rfl))
      (try simp only [Act.put, List.getElem_toArray, List.getElem_cons_zero, List.getElem_cons_succ, List.setIfInBounds_toArray, List.set_cons_zero, List.set_cons_succ])
      refine wpAnyH_take (i := 6) (oi := ({ dst := some 11, op := .move (.tmp 10), type := 4, pos := "ikey.go:90", after := #[⟨5, .data⟩, ⟨2, .chain⟩, ⟨2, .guard⟩], guard := some (2, true) } : Go.Oper)) (v := ?v6) rfl (by kernel_rfl) (by kernel_rfl) (by kernel_rfl) (fun _ _ _ h => h) (Or.inl ⟨by rfl, ?hy6⟩) (by assumption) ?rest6
      case hy6 => (intro w hSw; (try dsimp only at hSw); go_simp; (try with_reducible rfl))
      (try simp only [Act.put, List.getElem_toArray, List.getElem_cons_zero, List.getElem_cons_succ, List.setIfInBounds_toArray, List.set_cons_zero, List.set_cons_succ])
      refine wpAnyH_take (i := 7) (oi := ({ dst := some 12, op := .move (.tmp 0), type := 42, pos := "ikey.go:90", after := #[⟨6, .guard⟩], guard := some (6, false) } : Go.Oper)) (v := undef) rfl (by kernel_rfl) (by kernel_rfl) (by kernel_rfl) (fun _ _ _ h => h) (Or.inr ⟨by rfl, rfl⟩) (by assumption) ?_
      (try simp only [Act.put, List.getElem_toArray, List.getElem_cons_zero, List.getElem_cons_succ, List.setIfInBounds_toArray, List.set_cons_zero, List.set_cons_succ])
      refine wpAnyH_take (i := 8) (oi := ({ dst := some 13, op := .move (.tmp 0), type := 42, pos := "ikey.go:90", after := #[⟨6, .guard⟩], guard := some (6, false) } : Go.Oper)) (v := undef) rfl (by kernel_rfl) (by kernel_rfl) (by kernel_rfl) (fun _ _ _ h => h) (Or.inr ⟨by rfl, rfl⟩) (by assumption) ?_
      (try simp only [Act.put, List.getElem_toArray, List.getElem_cons_zero, List.getElem_cons_succ, List.setIfInBounds_toArray, List.set_cons_zero, List.set_cons_succ])
      refine wpAnyH_take (i := 9) (oi := ({ dst := some 14, op := .call { callee := .builtin .len, args := #[.tmp 13], argTypes := #[42] }, type := 3, pos := "ikey.go:90", after := #[⟨8, .data⟩, ⟨6, .guard⟩], guard := some (6, false) } : Go.Oper)) (v := undef) rfl (by kernel_rfl) (by kernel_rfl) (by kernel_rfl) (fun _ _ _ h => h) (Or.inr ⟨by rfl, rfl⟩) (by assumption) ?_
      (try simp only [Act.put, List.getElem_toArray, List.getElem_cons_zero, List.getElem_cons_succ, List.setIfInBounds_toArray, List.set_cons_zero, List.set_cons_succ])
      refine wpAnyH_take (i := 10) (oi := ({ dst := some 15, op := .binOp .sub 3 (.tmp 14) (.const (.int .i64 1)) 3, type := 3, pos := "ikey.go:90", after := #[⟨9, .data⟩, ⟨6, .guard⟩], guard := some (6, false) } : Go.Oper)) (v := undef) rfl (by kernel_rfl) (by kernel_rfl) (by kernel_rfl) (fun _ _ _ h => h) (Or.inr ⟨by rfl, rfl⟩) (by assumption) ?_
      (try simp only [Act.put, List.getElem_toArray, List.getElem_cons_zero, List.getElem_cons_succ, List.setIfInBounds_toArray, List.set_cons_zero, List.set_cons_succ])
      refine wpAnyH_take (i := 11) (oi := ({ dst := some 16, op := .indexAddr 42 (.tmp 12) (.tmp 15), type := 0, pos := "ikey.go:90", after := #[⟨7, .data⟩, ⟨10, .data⟩, ⟨6, .guard⟩], guard := some (6, false) } : Go.Oper)) (v := undef) rfl (by kernel_rfl) (by kernel_rfl) (by kernel_rfl) (fun _ _ _ h => h) (Or.inr ⟨by rfl, rfl⟩) (by assumption) ?_
      (try simp only [Act.put, List.getElem_toArray, List.getElem_cons_zero, List.getElem_cons_succ, List.setIfInBounds_toArray, List.set_cons_zero, List.set_cons_succ])
      refine wpAnyH_take (i := 12) (oi := ({ dst := some 17, op := .load 25 (.tmp 16), type := 25, pos := "ikey.go:90", after := #[⟨11, .data⟩, ⟨6, .guard⟩], guard := some (6, false) } : Go.Oper)) (v := undef) rfl (by kernel_rfl) (by kernel_rfl) (by kernel_rfl) (fun _ _ _ h => h) (Or.inr ⟨by rfl, rfl⟩) (by assumption) ?_
      (try simp only [Act.put, List.getElem_toArray, List.getElem_cons_zero, List.getElem_cons_succ, List.setIfInBounds_toArray, List.set_cons_zero, List.set_cons_succ])
      refine wpAnyH_take (i := 13) (oi := ({ dst := some 18, op := .load 25 (.tmp 3), type := 25, pos := "ikey.go:90", after := #[⟨6, .guard⟩], guard := some (6, false) } : Go.Oper)) (v := undef) rfl (by kernel_rfl) (by kernel_rfl) (by kernel_rfl) (fun _ _ _ h => h) (Or.inr ⟨by rfl, rfl⟩) (by assumption) ?_
      (try simp only [Act.put, List.getElem_toArray, List.getElem_cons_zero, List.getElem_cons_succ, List.setIfInBounds_toArray, List.set_cons_zero, List.set_cons_succ])
      refine wpAnyH_take (i := 14) (oi := ({ dst := some 19, op := .call { callee := .value (.func 16), args := #[.tmp 17, .tmp 18], argTypes := #[25, 25] }, type := 3, pos := "ikey.go:90", after := #[⟨12, .data⟩, ⟨13, .data⟩, ⟨6, .chain⟩, ⟨6, .guard⟩], guard := some (6, false) } : Go.Oper)) (v := undef) rfl (by kernel_rfl) (by kernel_rfl) (by kernel_rfl) (fun _ _ _ h => h) (Or.inr ⟨by rfl, rfl⟩) (by assumption) ?_
      (try simp only [Act.put, List.getElem_toArray, List.getElem_cons_zero, List.getElem_cons_succ, List.setIfInBounds_toArray, List.set_cons_zero, List.set_cons_succ])
      refine wpAnyH_take (i := 15) (oi := ({ dst := some 20, op := .binOp .lss 3 (.tmp 19) (.const (.int .i64 0)) 3, type := 4, pos := "ikey.go:90", after := #[⟨14, .data⟩, ⟨6, .guard⟩], guard := some (6, false) } : Go.Oper)) (v := undef) rfl (by kernel_rfl) (by kernel_rfl) (by kernel_rfl) (fun _ _ _ h => h) (Or.inr ⟨by rfl, rfl⟩) (by assumption) ?_
      (try simp only [Act.put, List.getElem_toArray, List.getElem_cons_zero, List.getElem_cons_succ, List.setIfInBounds_toArray, List.set_cons_zero, List.set_cons_succ])
      refine wpAnyH_take (i := 16) (oi := ({ dst := some 21, op := .pick (.tmp 11) (.const (.bool true)) (.tmp 20), type := 4, pos := "ikey.go:90", after := #[⟨6, .data⟩, ⟨15, .data⟩, ⟨2, .guard⟩], guard := some (2, true) } : Go.Oper)) (v := ?v7) rfl (by kernel_rfl) (by kernel_rfl) (by kernel_rfl) (fun _ _ _ h => h) (Or.inl ⟨by rfl, ?hy7⟩) (by assumption) ?rest7
      case hy7 => (intro w hSw; (try dsimp only at hSw); go_simp; (try with_reducible rfl))
      (try simp only [Act.put, List.getElem_toArray, List.getElem_cons_zero, List.getElem_cons_succ, List.setIfInBounds_toArray, List.set_cons_zero, List.set_cons_succ])
      refine wpAnyH_take (i := 17) (oi := ({ dst := some 22, op := .pick (.tmp 7) (.tmp 21) (.const (.bool false)), type := 4, pos := "ikey.go:90", after := #[⟨2, .data⟩, ⟨16, .data⟩], guard := none } : Go.Oper)) (v := ?v8) rfl (by kernel_rfl) (by kernel_rfl) (by kernel_rfl) (fun _ _ _ h => h) (Or.inl ⟨by rfl, ?hy8⟩) (by assumption) ?rest8
      case hy8 => (intro w hSw; (try dsimp only at hSw); go_simp; (try with_reducible rfl))
      (try simp only [Act.put, List.getElem_toArray, List.getElem_cons_zero, List.getElem_cons_succ, List.setIfInBounds_toArray, List.set_cons_zero, List.set_cons_succ])
      refine wpAnyH_take (i := 18) (oi := ({ dst := some 4, op := .assign (.tmp 22), type := 4, pos := "ikey.go:90", after := #[⟨17, .data⟩, ⟨14, .chain⟩, ⟨0, .phase⟩, ⟨1, .phase⟩, ⟨2, .phase⟩, ⟨3, .phase⟩, ⟨4, .phase⟩, ⟨5, .phase⟩, ⟨6, .phase⟩, ⟨7, .phase⟩, ⟨8, .phase⟩, ⟨9, .phase⟩, ⟨10, .phase⟩, ⟨11, .phase⟩, ⟨12, .phase⟩, ⟨13, .phase⟩, ⟨14, .phase⟩, ⟨15, .phase⟩, ⟨16, .phase⟩, ⟨17, .phase⟩], guard := none } : Go.Oper)) (v := ?v9) rfl (by kernel_rfl) (by kernel_rfl) (by kernel_rfl) (fun _ _ _ h => h) (Or.inl ⟨by rfl, ?hy9⟩) (by assumption) ?rest9
      case hy9 => (intro w hSw; (try dsimp only at hSw); go_simp; (try with_reducible rfl))
      (try simp only [Act.put, List.getElem_toArray, List.getElem_cons_zero, List.getElem_cons_succ, List.setIfInBounds_toArray, List.set_cons_zero, List.set_cons_succ])
      refine wpAnyH_done (by kernel_rfl) ?_ _
      go_wp2
      go_ret
      exact ⟨ret_bool (by simp [behO, hm]), (by with_reducible (repeat (first | exact Ext.rfl_ _ | assumption | refine Ext.drew ?_ | refine Ext.drewN ?_ _ | refine Ext.alloc ?_ _ | refine Ext.trans ?_ (by assumption))))⟩
    · have hl' := hl.at_ (n - 1) (by omega)
      obtain ⟨b, o, A1, n1, c1, A2, n2, c2, y, rfl, hy, ⟨h0, h1, h2, h3⟩, hry⟩ := hl'
      have hq := hl.2.1
      unfold B41 at hq
      have hn0 : ((n : Int) == 0) = false := by simp; omega
      have hwr : IntKind.i64.wrap ((n : Int) - 1) = ((n - 1 : Nat) : Int) := by rw [IntKind.wrap_i64]; omega
      have hlt : ((n - 1 : Nat) : Int) < (n : Int) := by omega
      have hl2 : xs.getLast? = some y := by rw [List.getLast?_eq_getElem?, hxl]; exact hy
      have H0 := Lib.hid h0
      have H1 := Lib.hid h1
      have H2 := Lib.hid h2
      have H3 := Lib.hid h3
      have HY := Lib.hid hry
      have HL := Lib.hid hl2
      have hs : ∀ w', Ext (w.alloc (.cells #[.slice B m d, .int .i64 x.seq, .int .i64 x.kind, .slice B' m' d'] 25)) w' → (w'.cell? ⟨w.heap.size, 0, none⟩ = some (.slice B m d) ∧ w'.cell? ⟨w.heap.size, 1, none⟩ = some (.int .i64 x.seq) ∧ w'.cell? ⟨w.heap.size, 2, none⟩ = some (.int .i64 x.kind) ∧ w'.cell? ⟨w.heap.size, 3, none⟩ = some (.slice B' m' d')) ∧ (w'.cell? ⟨b, o + (n - 1) * 4, none⟩ = some (.slice A1 n1 c1) ∧ w'.cell? ⟨b, o + (n - 1) * 4 + 1, none⟩ = some (.int .i64 y.seq) ∧ w'.cell? ⟨b, o + (n - 1) * 4 + 2, none⟩ = some (.int .i64 y.kind) ∧ w'.cell? ⟨b, o + (n - 1) * 4 + 3, none⟩ = some (.slice A2 n2 c2)) := fun w' K => by
        have K0 : Ext w w' := (Ext.alloc (Ext.rfl_ w) _).trans K
        exact ⟨⟨(box4 hbox.out K).1, (box4 hbox.out K).2.1, (box4 hbox.out K).2.2.1, (box4 hbox.out K).2.2.2.1⟩, ⟨K0.keeps _ _ _ H0.out, K0.keeps _ _ _ H1.out, K0.keeps _ _ _ H2.out, K0.keeps _ _ _ H3.out⟩⟩
      have HS := Lib.hid hs
      clear h0 h1 h2 h3 hry hy hl2 hl hxl hs
      go_enter Try.func86, Try.ntmps86
      go_wp2
      refine wp_region_held_drew (S := (fun w' => (w'.cell? ⟨w.heap.size, 0, none⟩ = some (.slice B m d) ∧ w'.cell? ⟨w.heap.size, 1, none⟩ = some (.int .i64 x.seq) ∧ w'.cell? ⟨w.heap.size, 2, none⟩ = some (.int .i64 x.kind) ∧ w'.cell? ⟨w.heap.size, 3, none⟩ = some (.slice B' m' d')) ∧ (w'.cell? ⟨b, o + (n - 1) * 4, none⟩ = some (.slice A1 n1 c1) ∧ w'.cell? ⟨b, o + (n - 1) * 4 + 1, none⟩ = some (.int .i64 y.seq) ∧ w'.cell? ⟨b, o + (n - 1) * 4 + 2, none⟩ = some (.int .i64 y.kind) ∧ w'.cell? ⟨b, o + (n - 1) * 4 + 3, none⟩ = some (.slice A2 n2 c2)))) (by kernel_rfl) (by (try dsimp only); exact HS.out _ (by with_reducible (repeat (first | exact Ext.rfl_ _ | assumption | refine Ext.drew ?_ | refine Ext.drewN ?_ _ | refine Ext.alloc ?_ _ | refine Ext.trans ?_ (by assumption))))) (fun hHeld => ?_)
      refine wpAnyH_take (i := 0) (oi := ({ dst := some 5, op := .load 25 (.tmp 3), type := 25, pos := "ikey.go:90", after := #[], guard := none } : Go.Oper)) (v := ?v10) rfl (by kernel_rfl) (by kernel_rfl) (by kernel_rfl) (fun _ _ _ h => h) (Or.inl ⟨by rfl, ?hy10⟩) (by assumption) ?rest10
      case hy10 => (intro w hSw; (try dsimp only at hSw); go_simp; (try with_reducible rfl))
      (try simp only [Act.put, List.getElem_toArray, List.getElem_cons_zero, List.getElem_cons_succ, List.setIfInBounds_toArray, List.set_cons_zero, List.set_cons_succ])
      refine wpAnyH_ready (rs := [1]) (by kernel_rfl) (by simp) ?_
      refine AllReadyH.cons (o := ({ dst := some 6, op := .call { callee := .value (.func 33), args := #[.tmp 5], argTypes := #[25] }, type := 4, pos := "ikey.go:90", after := #[⟨0, .data⟩], guard := none } : Go.Oper)) rfl (fun K hK => ?_) AllReadyH.nil
      go_simp
      (first | (go_at_call 33; refine (may_any _ x _ (HE.out.ext (by with_reducible (repeat (first | exact Ext.rfl_ _ | assumption | refine Ext.drew ?_ | refine Ext.drewN ?_ _ | refine Ext.alloc ?_ _ | refine Ext.trans ?_ (by assumption)))))).mono ?_; rintro e w1 ⟨rfl, hw1⟩) | (go_at_call 16; refine (compare_any _ _ y x _ (HY.out.ext (by with_reducible (repeat (first | exact Ext.rfl_ _ | assumption | refine Ext.drew ?_ | refine Ext.drewN ?_ _ | refine Ext.alloc ?_ _ | refine Ext.trans ?_ (by assumption))))) (HE.out.ext (by with_reducible (repeat (first | exact Ext.rfl_ _ | assumption | refine Ext.drew ?_ | refine Ext.drewN ?_ _ | refine Ext.alloc ?_ _ | refine Ext.trans ?_ (by assumption)))))).mono ?_; rintro e w2 ⟨rfl, hw2⟩))
      (try (go_wp2_with fail))
      refine hK.out _ _ (by (try dsimp only); exact HS.out _ (by with_reducible (repeat (first | exact Ext.rfl_ _ | assumption | refine Ext.drew ?_ | refine Ext.drewN ?_ _ | refine Ext.alloc ?_ _ | refine Ext.trans ?_ (by assumption))))) (fun hHeld => ?_)
      clear hK K
      (try simp only [Act.put, List.getElem_toArray, List.getElem_cons_zero, List.getElem_cons_succ, List.setIfInBounds_toArray, List.set_cons_zero, List.set_cons_succ])
      refine wpAnyH_take (i := 2) (oi := ({ dst := some 7, op := .move (.tmp 6), type := 4, pos := "ikey.go:90", after := #[⟨1, .data⟩, ⟨1, .chain⟩], guard := none } : Go.Oper)) (v := ?v11) rfl (by kernel_rfl) (by kernel_rfl) (by kernel_rfl) (fun _ _ _ h => h) (Or.inl ⟨by rfl, ?hy11⟩) (by assumption) ?rest11
      case hy11 => (intro w hSw; (try dsimp only at hSw); go_simp; (try with_reducible rfl))
      (try simp only [Act.put, List.getElem_toArray, List.getElem_cons_zero, List.getElem_cons_succ, List.setIfInBounds_toArray, List.set_cons_zero, List.set_cons_succ])
      refine wpAnyH_take (i := 3) (oi := ({ dst := some 8, op := .move (.tmp 0), type := 42, pos := "ikey.go:90", after := #[⟨2, .guard⟩], guard := some (2, true) } : Go.Oper)) (v := ?v12) rfl (by kernel_rfl) (by kernel_rfl) (by kernel_rfl) (fun _ _ _ h => h) (Or.inl ⟨by rfl, ?hy12⟩) (by assumption) ?rest12
      case hy12 => (intro w hSw; (try dsimp only at hSw); go_simp; (try with_reducible rfl))
      (try simp only [Act.put, List.getElem_toArray, List.getElem_cons_zero, List.getElem_cons_succ, List.setIfInBounds_toArray, List.set_cons_zero, List.set_cons_succ])
      refine wpAnyH_take (i := 4) (oi := ({ dst := some 9, op := .call { callee := .builtin .len, args := #[.tmp 8], argTypes := #[42] }, type := 3, pos := "ikey.go:90", after := #[⟨3, .data⟩, ⟨2, .guard⟩], guard := some (2, true) } : Go.Oper)) (v := ?v13) rfl (by kernel_rfl) (by kernel_rfl) (by kernel_rfl) (fun _ _ _ h => h) (Or.inl ⟨by rfl, ?hy13⟩) (by assumption) ?rest13
      case hy13 => (intro w hSw; (try dsimp only at hSw); go_simp; (try with_reducible rfl))
      (try simp only [Act.put, List.getElem_toArray, List.getElem_cons_zero, List.getElem_cons_succ, List.setIfInBounds_toArray, List.set_cons_zero, List.set_cons_succ])
      refine wpAnyH_take (i := 5) (oi := ({ dst := some 10, op := .binOp .eql 3 (.tmp 9) (.const (.int .i64 0)) 3, type := 4, pos := "ikey.go:90", after := #[⟨4, .data⟩, ⟨2, .guard⟩], guard := some (2, true) } : Go.Oper)) (v := ?v14) rfl (by kernel_rfl) (by kernel_rfl) (by kernel_rfl) (fun _ _ _ h => h) (Or.inl ⟨by rfl, ?hy14⟩) (by assumption) ?rest14
      case hy14 => (intro w hSw; (try dsimp only at hSw); go_simp; (try with_reducible rfl))
      (try simp only [Act.put, List.getElem_toArray, List.getElem_cons_zero, List.getElem_cons_succ, List.setIfInBounds_toArray, List.set_cons_zero, List.set_cons_succ])
      refine wpAnyH_take (i := 6) (oi := ({ dst := some 11, op := .move (.tmp 10), type := 4, pos := "ikey.go:90", after := #[⟨5, .data⟩, ⟨2, .chain⟩, ⟨2, .guard⟩], guard := some (2, true) } : Go.Oper)) (v := ?v15) rfl (by kernel_rfl) (by kernel_rfl) (by kernel_rfl) (fun _ _ _ h => h) (Or.inl ⟨by rfl, ?hy15⟩) (by assumption) ?rest15
      case hy15 => (intro w hSw; (try dsimp only at hSw); go_simp; (try with_reducible rfl))
      (try simp only [Act.put, List.getElem_toArray, List.getElem_cons_zero, List.getElem_cons_succ, List.setIfInBounds_toArray, List.set_cons_zero, List.set_cons_succ])
      refine wpAnyH_take (i := 7) (oi := ({ dst := some 12, op := .move (.tmp 0), type := 42, pos := "ikey.go:90", after := #[⟨6, .guard⟩], guard := some (6, false) } : Go.Oper)) (v := ?v16) rfl (by kernel_rfl) (by kernel_rfl) (by kernel_rfl) (fun _ _ _ h => h) (Or.inl ⟨by rfl, ?hy16⟩) (by assumption) ?rest16
      case hy16 => (intro w hSw; (try dsimp only at hSw); go_simp; (try with_reducible rfl))
      (try simp only [Act.put, List.getElem_toArray, List.getElem_cons_zero, List.getElem_cons_succ, List.setIfInBounds_toArray, List.set_cons_zero, List.set_cons_succ])
      refine wpAnyH_take (i := 8) (oi := ({ dst := some 13, op := .move (.tmp 0), type := 42, pos := "ikey.go:90", after := #[⟨6, .guard⟩], guard := some (6, false) } : Go.Oper)) (v := ?v17) rfl (by kernel_rfl) (by kernel_rfl) (by kernel_rfl) (fun _ _ _ h => h) (Or.inl ⟨by rfl, ?hy17⟩) (by assumption) ?rest17
      case hy17 => (intro w hSw; (try dsimp only at hSw); go_simp; (try with_reducible rfl))
      (try simp only [Act.put, List.getElem_toArray, List.getElem_cons_zero, List.getElem_cons_succ, List.setIfInBounds_toArray, List.set_cons_zero, List.set_cons_succ])
      refine wpAnyH_take (i := 9) (oi := ({ dst := some 14, op := .call { callee := .builtin .len, args := #[.tmp 13], argTypes := #[42] }, type := 3, pos := "ikey.go:90", after := #[⟨8, .data⟩, ⟨6, .guard⟩], guard := some (6, false) } : Go.Oper)) (v := ?v18) rfl (by kernel_rfl) (by kernel_rfl) (by kernel_rfl) (fun _ _ _ h => h) (Or.inl ⟨by rfl, ?hy18⟩) (by assumption) ?rest18
      case hy18 => (intro w hSw; (try dsimp only at hSw); go_simp; (try with_reducible rfl))
      (try simp only [Act.put, List.getElem_toArray, List.getElem_cons_zero, List.getElem_cons_succ, List.setIfInBounds_toArray, List.set_cons_zero, List.set_cons_succ])
      refine wpAnyH_take (i := 10) (oi := ({ dst := some 15, op := .binOp .sub 3 (.tmp 14) (.const (.int .i64 1)) 3, type := 3, pos := "ikey.go:90", after := #[⟨9, .data⟩, ⟨6, .guard⟩], guard := some (6, false) } : Go.Oper)) (v := ?v19) rfl (by kernel_rfl) (by kernel_rfl) (by kernel_rfl) (fun _ _ _ h => h) (Or.inl ⟨by rfl, ?hy19⟩) (by assumption) ?rest19
      case hy19 => (intro w hSw; (try dsimp only at hSw); go_simp; (try with_reducible rfl))
      (try simp only [Act.put, List.getElem_toArray, List.getElem_cons_zero, List.getElem_cons_succ, List.setIfInBounds_toArray, List.set_cons_zero, List.set_cons_succ])
      refine wpAnyH_take (i := 11) (oi := ({ dst := some 16, op := .indexAddr 42 (.tmp 12) (.tmp 15), type := 0, pos := "ikey.go:90", after := #[⟨7, .data⟩, ⟨10, .data⟩, ⟨6, .guard⟩], guard := some (6, false) } : Go.Oper)) (v := ?v20) rfl (by kernel_rfl) (by kernel_rfl) (by kernel_rfl) (fun _ _ _ h => h) (Or.inl ⟨by rfl, ?hy20⟩) (by assumption) ?rest20
      case hy20 => (intro w hSw; (try dsimp only at hSw); go_simp; (try with_reducible rfl))
      (try simp only [Act.put, List.getElem_toArray, List.getElem_cons_zero, List.getElem_cons_succ, List.setIfInBounds_toArray, List.set_cons_zero, List.set_cons_succ])
      refine wpAnyH_take (i := 12) (oi := ({ dst := some 17, op := .load 25 (.tmp 16), type := 25, pos := "ikey.go:90", after := #[⟨11, .data⟩, ⟨6, .guard⟩], guard := some (6, false) } : Go.Oper)) (v := ?v21) rfl (by kernel_rfl) (by kernel_rfl) (by kernel_rfl) (fun _ _ _ h => h) (Or.inl ⟨by rfl, ?hy21⟩) (by assumption) ?rest21
      case hy21 => (intro w hSw; (try dsimp only at hSw); go_simp; (try with_reducible rfl))
      (try simp only [Act.put, List.getElem_toArray, List.getElem_cons_zero, List.getElem_cons_succ, List.setIfInBounds_toArray, List.set_cons_zero, List.set_cons_succ])
      refine wpAnyH_take (i := 13) (oi := ({ dst := some 18, op := .load 25 (.tmp 3), type := 25, pos := "ikey.go:90", after := #[⟨6, .guard⟩], guard := some (6, false) } : Go.Oper)) (v := ?v22) rfl (by kernel_rfl) (by kernel_rfl) (by kernel_rfl) (fun _ _ _ h => h) (Or.inl ⟨by rfl, ?hy22⟩) (by assumption) ?rest22
      case hy22 => (intro w hSw; (try dsimp only at hSw); go_simp; (try with_reducible rfl))
      (try simp only [Act.put, List.getElem_toArray, List.getElem_cons_zero, List.getElem_cons_succ, List.setIfInBounds_toArray, List.set_cons_zero, List.set_cons_succ])
      refine wpAnyH_ready (rs := [14]) (by kernel_rfl) (by simp) ?_
      refine AllReadyH.cons (o := ({ dst := some 19, op := .call { callee := .value (.func 16), args := #[.tmp 17, .tmp 18], argTypes := #[25, 25] }, type := 3, pos := "ikey.go:90", after := #[⟨12, .data⟩, ⟨13, .data⟩, ⟨6, .chain⟩, ⟨6, .guard⟩], guard := some (6, false) } : Go.Oper)) rfl (fun K hK => ?_) AllReadyH.nil
      go_simp
      (first | (go_at_call 33; refine (may_any _ x _ (HE.out.ext (by with_reducible (repeat (first | exact Ext.rfl_ _ | assumption | refine Ext.drew ?_ | refine Ext.drewN ?_ _ | refine Ext.alloc ?_ _ | refine Ext.trans ?_ (by assumption)))))).mono ?_; rintro e w1 ⟨rfl, hw1⟩) | (go_at_call 16; refine (compare_any _ _ y x _ (HY.out.ext (by with_reducible (repeat (first | exact Ext.rfl_ _ | assumption | refine Ext.drew ?_ | refine Ext.drewN ?_ _ | refine Ext.alloc ?_ _ | refine Ext.trans ?_ (by assumption))))) (HE.out.ext (by with_reducible (repeat (first | exact Ext.rfl_ _ | assumption | refine Ext.drew ?_ | refine Ext.drewN ?_ _ | refine Ext.alloc ?_ _ | refine Ext.trans ?_ (by assumption)))))).mono ?_; rintro e w2 ⟨rfl, hw2⟩))
      (try (go_wp2_with fail))
      refine hK.out _ _ (by (try dsimp only); exact HS.out _ (by with_reducible (repeat (first | exact Ext.rfl_ _ | assumption | refine Ext.drew ?_ | refine Ext.drewN ?_ _ | refine Ext.alloc ?_ _ | refine Ext.trans ?_ (by assumption))))) (fun hHeld => ?_)
      clear hK K
      (try simp only [Act.put, List.getElem_toArray, List.getElem_cons_zero, List.getElem_cons_succ, List.setIfInBounds_toArray, List.set_cons_zero, List.set_cons_succ])
      refine wpAnyH_take (i := 15) (oi := ({ dst := some 20, op := .binOp .lss 3 (.tmp 19) (.const (.int .i64 0)) 3, type := 4, pos := "ikey.go:90", after := #[⟨14, .data⟩, ⟨6, .guard⟩], guard := some (6, false) } : Go.Oper)) (v := ?v23) rfl (by kernel_rfl) (by kernel_rfl) (by kernel_rfl) (fun _ _ _ h => h) (Or.inl ⟨by rfl, ?hy23⟩) (by assumption) ?rest23
      case hy23 => (intro w hSw; (try dsimp only at hSw); go_simp; (try with_reducible rfl))
      (try simp only [Act.put, List.getElem_toArray, List.getElem_cons_zero, List.getElem_cons_succ, List.setIfInBounds_toArray, List.set_cons_zero, List.set_cons_succ])
      refine wpAnyH_take (i := 16) (oi := ({ dst := some 21, op := .pick (.tmp 11) (.const (.bool true)) (.tmp 20), type := 4, pos := "ikey.go:90", after := #[⟨6, .data⟩, ⟨15, .data⟩, ⟨2, .guard⟩], guard := some (2, true) } : Go.Oper)) (v := ?v24) rfl (by kernel_rfl) (by kernel_rfl) (by kernel_rfl) (fun _ _ _ h => h) (Or.inl ⟨by rfl, ?hy24⟩) (by assumption) ?rest24
      case hy24 => (intro w hSw; (try dsimp only at hSw); go_simp; (try with_reducible rfl))
      (try simp only [Act.put, List.getElem_toArray, List.getElem_cons_zero, List.getElem_cons_succ, List.setIfInBounds_toArray, List.set_cons_zero, List.set_cons_succ])
      refine wpAnyH_take (i := 17) (oi := ({ dst := some 22, op := .pick (.tmp 7) (.tmp 21) (.const (.bool false)), type := 4, pos := "ikey.go:90", after := #[⟨2, .data⟩, ⟨16, .data⟩], guard := none } : Go.Oper)) (v := ?v25) rfl (by kernel_rfl) (by kernel_rfl) (by kernel_rfl) (fun _ _ _ h => h) (Or.inl ⟨by rfl, ?hy25⟩) (by assumption) ?rest25
      case hy25 => (intro w hSw; (try dsimp only at hSw); go_simp; (try with_reducible rfl))
      (try simp only [Act.put, List.getElem_toArray, List.getElem_cons_zero, List.getElem_cons_succ, List.setIfInBounds_toArray, List.set_cons_zero, List.set_cons_succ])
      refine wpAnyH_take (i := 18) (oi := ({ dst := some 4, op := .assign (.tmp 22), type := 4, pos := "ikey.go:90", after := #[⟨17, .data⟩, ⟨14, .chain⟩, ⟨0, .phase⟩, ⟨1, .phase⟩, ⟨2, .phase⟩, ⟨3, .phase⟩, ⟨4, .phase⟩, ⟨5, .phase⟩, ⟨6, .phase⟩, ⟨7, .phase⟩, ⟨8, .phase⟩, ⟨9, .phase⟩, ⟨10, .phase⟩, ⟨11, .phase⟩, ⟨12, .phase⟩, ⟨13, .phase⟩, ⟨14, .phase⟩, ⟨15, .phase⟩, ⟨16, .phase⟩, ⟨17, .phase⟩], guard := none } : Go.Oper)) (v := ?v26) rfl (by kernel_rfl) (by kernel_rfl) (by kernel_rfl) (fun _ _ _ h => h) (Or.inl ⟨by rfl, ?hy26⟩) (by assumption) ?rest26
      case hy26 => (intro w hSw; (try dsimp only at hSw); go_simp; (try with_reducible rfl))
      (try simp only [Act.put, List.getElem_toArray, List.getElem_cons_zero, List.getElem_cons_succ, List.setIfInBounds_toArray, List.set_cons_zero, List.set_cons_succ])
      refine wpAnyH_done (by kernel_rfl) ?_ _
      go_wp2
      go_ret
      exact ⟨ret_bool (by simp [behO, hm, HL.out]), (by with_reducible (repeat (first | exact Ext.rfl_ _ | assumption | refine Ext.drew ?_ | refine Ext.drewN ?_ _ | refine Ext.alloc ?_ _ | refine Ext.trans ?_ (by assumption))))⟩
  · have hm' : mayE x = false := by simpa using hm
    go_enter Try.func86, Try.ntmps86
    go_wp2
    refine wp_region_held_drew (S := (fun w' => w'.cell? ⟨w.heap.size, 0, none⟩ = some (.slice B m d) ∧ w'.cell? ⟨w.heap.size, 1, none⟩ = some (.int .i64 x.seq) ∧ w'.cell? ⟨w.heap.size, 2, none⟩ = some (.int .i64 x.kind) ∧ w'.cell? ⟨w.heap.size, 3, none⟩ = some (.slice B' m' d') ∧ w'.frozen? ⟨w.heap.size, 0, none⟩ = false ∧ w'.frozen? ⟨w.heap.size, 1, none⟩ = false ∧ w'.frozen? ⟨w.heap.size, 2, none⟩ = false ∧ w'.frozen? ⟨w.heap.size, 3, none⟩ = false)) (by kernel_rfl) (by (try dsimp only); exact box4 hbox.out (by with_reducible (repeat (first | exact Ext.rfl_ _ | assumption | refine Ext.drew ?_ | refine Ext.drewN ?_ _ | refine Ext.alloc ?_ _ | refine Ext.trans ?_ (by assumption))))) (fun hHeld => ?_)
    refine wpAnyH_take (i := 0) (oi := ({ dst := some 5, op := .load 25 (.tmp 3), type := 25, pos := "ikey.go:90", after := #[], guard := none } : Go.Oper)) (v := ?v27) rfl (by kernel_rfl) (by kernel_rfl) (by kernel_rfl) (fun _ _ _ h => h) (Or.inl ⟨by rfl, ?hy27⟩) (by assumption) ?rest27
    case hy27 => (intro w hSw; (try dsimp only at hSw); go_simp; (try with_reducible rfl))
    (try simp only [Act.put, List.getElem_toArray, List.getElem_cons_zero, List.getElem_cons_succ, List.setIfInBounds_toArray, List.set_cons_zero, List.set_cons_succ])
    refine wpAnyH_ready (rs := [1]) (by kernel_rfl) (by simp) ?_
    refine AllReadyH.cons (o := ({ dst := some 6, op := .call { callee := .value (.func 33), args := #[.tmp 5], argTypes := #[25] }, type := 4, pos := "ikey.go:90", after := #[⟨0, .data⟩], guard := none } : Go.Oper)) rfl (fun K hK => ?_) AllReadyH.nil
    go_simp
    (go_at_call 33; refine (may_any _ x _ (HE.out.ext (by with_reducible (repeat (first | exact Ext.rfl_ _ | assumption | refine Ext.drew ?_ | refine Ext.drewN ?_ _ | refine Ext.alloc ?_ _ | refine Ext.trans ?_ (by assumption)))))).mono ?_; rintro e w1 ⟨rfl, hw1⟩)
    (try (go_wp2_with fail))
    refine hK.out _ _ (by (try dsimp only); exact box4 hbox.out (by with_reducible (repeat (first | exact Ext.rfl_ _ | assumption | refine Ext.drew ?_ | refine Ext.drewN ?_ _ | refine Ext.alloc ?_ _ | refine Ext.trans ?_ (by assumption))))) (fun hHeld => ?_)
    clear hK K
    (try simp only [Act.put, List.getElem_toArray, List.getElem_cons_zero, List.getElem_cons_succ, List.setIfInBounds_toArray, List.set_cons_zero, List.set_cons_succ])
    refine wpAnyH_take (i := 2) (oi := ({ dst := some 7, op := .move (.tmp 6), type := 4, pos := "ikey.go:90", after := #[⟨1, .data⟩, ⟨1, .chain⟩], guard := none } : Go.Oper)) (v := ?v28) rfl (by kernel_rfl) (by kernel_rfl) (by kernel_rfl) (fun _ _ _ h => h) (Or.inl ⟨by rfl, ?hy28⟩) (by assumption) ?rest28
    case hy28 => (intro w hSw; (try dsimp only at hSw); go_simp; (try with_reducible rfl))
    (try simp only [Act.put, List.getElem_toArray, List.getElem_cons_zero, List.getElem_cons_succ, List.setIfInBounds_toArray, List.set_cons_zero, List.set_cons_succ])
    refine wpAnyH_take (i := 3) (oi := ({ dst := some 8, op := .move (.tmp 0), type := 42, pos := "ikey.go:90", after := #[⟨2, .guard⟩], guard := some (2, true) } : Go.Oper)) (v := undef) rfl (by kernel_rfl) (by kernel_rfl) (by kernel_rfl) (fun _ _ _ h => h) (Or.inr ⟨by rfl, rfl⟩) (by assumption) ?_
    (try simp only [Act.put, List.getElem_toArray, List.getElem_cons_zero, List.getElem_cons_succ, List.setIfInBounds_toArray, List.set_cons_zero, List.set_cons_succ])
    refine wpAnyH_take (i := 4) (oi := ({ dst := some 9, op := .call { callee := .builtin .len, args := #[.tmp 8], argTypes := #[42] }, type := 3, pos := "ikey.go:90", after := #[⟨3, .data⟩, ⟨2, .guard⟩], guard := some (2, true) } : Go.Oper)) (v := undef) rfl (by kernel_rfl) (by kernel_rfl) (by kernel_rfl) (fun _ _ _ h => h) (Or.inr ⟨by rfl, rfl⟩) (by assumption) ?_
    (try simp only [Act.put, List.getElem_toArray, List.getElem_cons_zero, List.getElem_cons_succ, List.setIfInBounds_toArray, List.set_cons_zero, List.set_cons_succ])
    refine wpAnyH_take (i := 5) (oi := ({ dst := some 10, op := .binOp .eql 3 (.tmp 9) (.const (.int .i64 0)) 3, type := 4, pos := "ikey.go:90", after := #[⟨4, .data⟩, ⟨2, .guard⟩], guard := some (2, true) } : Go.Oper)) (v := undef) rfl (by kernel_rfl) (by kernel_rfl) (by kernel_rfl) (fun _ _ _ h => h) (Or.inr ⟨by rfl, rfl⟩) (by assumption) ?_
    (try simp only [Act.put, List.getElem_toArray, List.getElem_cons_zero, List.getElem_cons_succ, List.setIfInBounds_toArray, List.set_cons_zero, List.set_cons_succ])
    refine wpAnyH_take (i := 6) (oi := ({ dst := some 11, op := .move (.tmp 10), type := 4, pos := "ikey.go:90", after := #[⟨5, .data⟩, ⟨2, .chain⟩, ⟨2, .guard⟩], guard := some (2, true) } : Go.Oper)) (v := undef) rfl (by kernel_rfl) (by kernel_rfl) (by kernel_rfl) (fun _ _ _ h => h) (Or.inr ⟨by rfl, rfl⟩) (by assumption) ?_
    (try simp only [Act.put, List.getElem_toArray, List.getElem_cons_zero, List.getElem_cons_succ, List.setIfInBounds_toArray, List.set_cons_zero, List.set_cons_succ])
    refine wpAnyH_take (i := 7) (oi := ({ dst := some 12, op := .move (.tmp 0), type := 42, pos := "ikey.go:90", after := #[⟨6, .guard⟩], guard := some (6, false) } : Go.Oper)) (v := undef) rfl (by kernel_rfl) (by kernel_rfl) (by kernel_rfl) (fun _ _ _ h => h) (Or.inr ⟨by rfl, rfl⟩) (by assumption) ?_
    (try simp only [Act.put, List.getElem_toArray, List.getElem_cons_zero, List.getElem_cons_succ, List.setIfInBounds_toArray, List.set_cons_zero, List.set_cons_succ])
    refine wpAnyH_take (i := 8) (oi := ({ dst := some 13, op := .move (.tmp 0), type := 42, pos := "ikey.go:90", after := #[⟨6, .guard⟩], guard := some (6, false) } : Go.Oper)) (v := undef) rfl (by kernel_rfl) (by kernel_rfl) (by kernel_rfl) (fun _ _ _ h => h) (Or.inr ⟨by rfl, rfl⟩) (by assumption) ?_
    (try simp only [Act.put, List.getElem_toArray, List.getElem_cons_zero, List.getElem_cons_succ, List.setIfInBounds_toArray, List.set_cons_zero, List.set_cons_succ])
    refine wpAnyH_take (i := 9) (oi := ({ dst := some 14, op := .call { callee := .builtin .len, args := #[.tmp 13], argTypes := #[42] }, type := 3, pos := "ikey.go:90", after := #[⟨8, .data⟩, ⟨6, .guard⟩], guard := some (6, false) } : Go.Oper)) (v := undef) rfl (by kernel_rfl) (by kernel_rfl) (by kernel_rfl) (fun _ _ _ h => h) (Or.inr ⟨by rfl, rfl⟩) (by assumption) ?_
    (try simp only [Act.put, List.getElem_toArray, List.getElem_cons_zero, List.getElem_cons_succ, List.setIfInBounds_toArray, List.set_cons_zero, List.set_cons_succ])
    refine wpAnyH_take (i := 10) (oi := ({ dst := some 15, op := .binOp .sub 3 (.tmp 14) (.const (.int .i64 1)) 3, type := 3, pos := "ikey.go:90", after := #[⟨9, .data⟩, ⟨6, .guard⟩], guard := some (6, false) } : Go.Oper)) (v := undef) rfl (by kernel_rfl) (by kernel_rfl) (by kernel_rfl) (fun _ _ _ h => h) (Or.inr ⟨by rfl, rfl⟩) (by assumption) ?_
    (try simp only [Act.put, List.getElem_toArray, List.getElem_cons_zero, List.getElem_cons_succ, List.setIfInBounds_toArray, List.set_cons_zero, List.set_cons_succ])
    refine wpAnyH_take (i := 11) (oi := ({ dst := some 16, op := .indexAddr 42 (.tmp 12) (.tmp 15), type := 0, pos := "ikey.go:90", after := #[⟨7, .data⟩, ⟨10, .data⟩, ⟨6, .guard⟩], guard := some (6, false) } : Go.Oper)) (v := undef) rfl (by kernel_rfl) (by kernel_rfl) (by kernel_rfl) (fun _ _ _ h => h) (Or.inr ⟨by rfl, rfl⟩) (by assumption) ?_
    (try simp only [Act.put, List.getElem_toArray, List.getElem_cons_zero, List.getElem_cons_succ, List.setIfInBounds_toArray, List.set_cons_zero, List.set_cons_succ])
    refine wpAnyH_take (i := 12) (oi := ({ dst := some 17, op := .load 25 (.tmp 16), type := 25, pos := "ikey.go:90", after := #[⟨11, .data⟩, ⟨6, .guard⟩], guard := some (6, false) } : Go.Oper)) (v := undef) rfl (by kernel_rfl) (by kernel_rfl) (by kernel_rfl) (fun _ _ _ h => h) (Or.inr ⟨by rfl, rfl⟩) (by assumption) ?_
    (try simp only [Act.put, List.getElem_toArray, List.getElem_cons_zero, List.getElem_cons_succ, List.setIfInBounds_toArray, List.set_cons_zero, List.set_cons_succ])
    refine wpAnyH_take (i := 13) (oi := ({ dst := some 18, op := .load 25 (.tmp 3), type := 25, pos := "ikey.go:90", after := #[⟨6, .guard⟩], guard := some (6, false) } : Go.Oper)) (v := undef) rfl (by kernel_rfl) (by kernel_rfl) (by kernel_rfl) (fun _ _ _ h => h) (Or.inr ⟨by rfl, rfl⟩) (by assumption) ?_
    (try simp only [Act.put, List.getElem_toArray, List.getElem_cons_zero, List.getElem_cons_succ, List.setIfInBounds_toArray, List.set_cons_zero, List.set_cons_succ])
    refine wpAnyH_take (i := 14) (oi := ({ dst := some 19, op := .call { callee := .value (.func 16), args := #[.tmp 17, .tmp 18], argTypes := #[25, 25] }, type := 3, pos := "ikey.go:90", after := #[⟨12, .data⟩, ⟨13, .data⟩, ⟨6, .chain⟩, ⟨6, .guard⟩], guard := some (6, false) } : Go.Oper)) (v := undef) rfl (by kernel_rfl) (by kernel_rfl) (by kernel_rfl) (fun _ _ _ h => h) (Or.inr ⟨by rfl, rfl⟩) (by assumption) ?_
    (try simp only [Act.put, List.getElem_toArray, List.getElem_cons_zero, List.getElem_cons_succ, List.setIfInBounds_toArray, List.set_cons_zero, List.set_cons_succ])
    refine wpAnyH_take (i := 15) (oi := ({ dst := some 20, op := .binOp .lss 3 (.tmp 19) (.const (.int .i64 0)) 3, type := 4, pos := "ikey.go:90", after := #[⟨14, .data⟩, ⟨6, .guard⟩], guard := some (6, false) } : Go.Oper)) (v := undef) rfl (by kernel_rfl) (by kernel_rfl) (by kernel_rfl) (fun _ _ _ h => h) (Or.inr ⟨by rfl, rfl⟩) (by assumption) ?_
    (try simp only [Act.put, List.getElem_toArray, List.getElem_cons_zero, List.getElem_cons_succ, List.setIfInBounds_toArray, List.set_cons_zero, List.set_cons_succ])
    refine wpAnyH_take (i := 16) (oi := ({ dst := some 21, op := .pick (.tmp 11) (.const (.bool true)) (.tmp 20), type := 4, pos := "ikey.go:90", after := #[⟨6, .data⟩, ⟨15, .data⟩, ⟨2, .guard⟩], guard := some (2, true) } : Go.Oper)) (v := undef) rfl (by kernel_rfl) (by kernel_rfl) (by kernel_rfl) (fun _ _ _ h => h) (Or.inr ⟨by rfl, rfl⟩) (by assumption) ?_
    (try simp only [Act.put, List.getElem_toArray, List.getElem_cons_zero, List.getElem_cons_succ, List.setIfInBounds_toArray, List.set_cons_zero, List.set_cons_succ])
    refine wpAnyH_take (i := 17) (oi := ({ dst := some 22, op := .pick (.tmp 7) (.tmp 21) (.const (.bool false)), type := 4, pos := "ikey.go:90", after := #[⟨2, .data⟩, ⟨16, .data⟩], guard := none } : Go.Oper)) (v := ?v29) rfl (by kernel_rfl) (by kernel_rfl) (by kernel_rfl) (fun _ _ _ h => h) (Or.inl ⟨by rfl, ?hy29⟩) (by assumption) ?rest29
    case hy29 => (intro w hSw; (try dsimp only at hSw); go_simp; (try with_reducible rfl))
    (try simp only [Act.put, List.getElem_toArray, List.getElem_cons_zero, List.getElem_cons_succ, List.setIfInBounds_toArray, List.set_cons_zero, List.set_cons_succ])
    refine wpAnyH_take (i := 18) (oi := ({ dst := some 4, op := .assign (.tmp 22), type := 4, pos := "ikey.go:90", after := #[⟨17, .data⟩, ⟨14, .chain⟩, ⟨0, .phase⟩, ⟨1, .phase⟩, ⟨2, .phase⟩, ⟨3, .phase⟩, ⟨4, .phase⟩, ⟨5, .phase⟩, ⟨6, .phase⟩, ⟨7, .phase⟩, ⟨8, .phase⟩, ⟨9, .phase⟩, ⟨10, .phase⟩, ⟨11, .phase⟩, ⟨12, .phase⟩, ⟨13, .phase⟩, ⟨14, .phase⟩, ⟨15, .phase⟩, ⟨16, .phase⟩, ⟨17, .phase⟩], guard := none } : Go.Oper)) (v := ?v30) rfl (by kernel_rfl) (by kernel_rfl) (by kernel_rfl) (fun _ _ _ h => h) (Or.inl ⟨by rfl, ?hy30⟩) (by assumption) ?rest30
    case hy30 => (intro w hSw; (try dsimp only at hSw); go_simp; (try with_reducible rfl))
    (try simp only [Act.put, List.getElem_toArray, List.getElem_cons_zero, List.getElem_cons_succ, List.setIfInBounds_toArray, List.set_cons_zero, List.set_cons_succ])
    refine wpAnyH_done (by kernel_rfl) ?_ _
    go_wp2
    go_ret
    exact ⟨ret_bool (by simp [behO, hm']), (by with_reducible (repeat (first | exact Ext.rfl_ _ | assumption | refine Ext.drew ?_ | refine Ext.drewN ?_ _ | refine Ext.alloc ?_ _ | refine Ext.trans ?_ (by assumption))))⟩

end Go.Proofs.Ytpohmoakilioiaa
