/- Tables' places in memory: values, lists, boxes; numbers and keys compared. Conditions: none. -/
import Derived.Test.YteooaplimiifiaaGreatKeyA
namespace Go.Proofs.YteooaplimiifiaaGreat
set_option linter.unusedSimpArgs false
set_option linter.unusedVariables false
set_option maxRecDepth 100000
open Go.RowKit

structure Tab where
  num : Int
  lvl : Int
  fst : Bs
  lst : Bs
  size : Int
deriving DecidableEq, Inhabited

/-- A number of 64 bits. -/
def I64 (z : Int) : Prop := -9223372036854775808 ≤ z ∧ z ≤ 9223372036854775807

/-- A value of type api.TableAt that reads as t. -/
def RdT (w : World) (v : Value) (t : Tab) : Prop :=
  ∃ A n c A' n' c', v = .agg #[.int .i64 t.num, .int .i64 t.lvl, .slice A n c, .slice A' n' c', .int .i64 t.size] ∧ Rd w A n t.fst ∧ Rd w A' n' t.lst ∧
    n ≤ c ∧ n ≤ B47 ∧ n' ≤ c' ∧ n' ≤ B47 ∧ I64 t.num ∧ I64 t.lvl ∧ I64 t.size

theorem RdT.ext {w w' : World} {v : Value} {t : Tab} (h : RdT w v t) (he : Ext w w') : RdT w' v t := by
  obtain ⟨A, n, c, A', n', c', rfl, h1, h2, h3⟩ := h
  exact ⟨A, n, c, A', n', c', rfl, h1.ext he, h2.ext he, h3⟩

/-- A block of five cells in a later world: its cells, none frozen. -/
theorem box5 {W w' : World} {g : Nat} {t : TypeId} {a b c d e : Value} (h : W.heap[g]? = some (.cells #[a, b, c, d, e] t (0, 0))) (hx : Ext W w') :
    w'.cell? ⟨g, 0, none⟩ = some a ∧ w'.cell? ⟨g, 1, none⟩ = some b ∧ w'.cell? ⟨g, 2, none⟩ = some c ∧ w'.cell? ⟨g, 3, none⟩ = some d ∧ w'.cell? ⟨g, 4, none⟩ = some e ∧
    w'.frozen? ⟨g, 0, none⟩ = false ∧ w'.frozen? ⟨g, 1, none⟩ = false ∧ w'.frozen? ⟨g, 2, none⟩ = false ∧ w'.frozen? ⟨g, 3, none⟩ = false ∧ w'.frozen? ⟨g, 4, none⟩ = false := by
  have hg : w'.heap[g]? = some (.cells #[a, b, c, d, e] t (0, 0)) := ((Ext.below hx).block g (Array.getElem?_eq_some_iff.1 h).1).trans h
  simp [World.cell?, World.frozen?, hg]

/-- A slice of tables (address, length) that reads as ts. -/
def RdLT (w : World) (A : Option Addr) (n : Nat) (ts : List Tab) : Prop :=
  ts.length = n ∧ n ≤ B47 ∧ (0 < n → ∃ b o, A = some ⟨b, o, none⟩ ∧ ∀ k (h : k < ts.length), ∃ A1 n1 c1 A2 n2 c2,
    (w.cell? ⟨b, o + k * 5, none⟩ = some (.int .i64 ts[k].num) ∧ w.cell? ⟨b, o + k * 5 + 1, none⟩ = some (.int .i64 ts[k].lvl) ∧ w.cell? ⟨b, o + k * 5 + 2, none⟩ = some (.slice A1 n1 c1) ∧ w.cell? ⟨b, o + k * 5 + 3, none⟩ = some (.slice A2 n2 c2) ∧ w.cell? ⟨b, o + k * 5 + 4, none⟩ = some (.int .i64 ts[k].size)) ∧
    RdT w (.agg #[.int .i64 ts[k].num, .int .i64 ts[k].lvl, .slice A1 n1 c1, .slice A2 n2 c2, .int .i64 ts[k].size]) ts[k])

theorem RdLT.nil (w : World) (A : Option Addr) : RdLT w A 0 [] := ⟨rfl, Nat.zero_le _, fun h => absurd h (by omega)⟩

theorem RdLT.ext {w w' : World} {A : Option Addr} {n : Nat} {ts : List Tab} (h : RdLT w A n ts) (he : Ext w w') : RdLT w' A n ts :=
  ⟨h.1, h.2.1, fun hn => by
    obtain ⟨b, o, e, hc⟩ := h.2.2 hn
    refine ⟨b, o, e, fun k hk => ?_⟩
    obtain ⟨A1, n1, c1, A2, n2, c2, ⟨h0, h1, h2, h3, h4⟩, hr⟩ := hc k hk
    exact ⟨A1, n1, c1, A2, n2, c2, ⟨he.keeps _ _ _ h0, he.keeps _ _ _ h1, he.keeps _ _ _ h2, he.keeps _ _ _ h3, he.keeps _ _ _ h4⟩, hr.ext he⟩⟩

/-- The element at k. -/
theorem RdLT.at_ {w : World} {A : Option Addr} {n : Nat} {ts : List Tab} (h : RdLT w A n ts) (k : Nat) (hk : k < n) :
    ∃ b o A1 n1 c1 A2 n2 c2 x, A = some ⟨b, o, none⟩ ∧ ts[k]? = some x ∧ (w.cell? ⟨b, o + k * 5, none⟩ = some (.int .i64 x.num) ∧ w.cell? ⟨b, o + k * 5 + 1, none⟩ = some (.int .i64 x.lvl) ∧ w.cell? ⟨b, o + k * 5 + 2, none⟩ = some (.slice A1 n1 c1) ∧ w.cell? ⟨b, o + k * 5 + 3, none⟩ = some (.slice A2 n2 c2) ∧ w.cell? ⟨b, o + k * 5 + 4, none⟩ = some (.int .i64 x.size)) ∧
      RdT w (.agg #[.int .i64 x.num, .int .i64 x.lvl, .slice A1 n1 c1, .slice A2 n2 c2, .int .i64 x.size]) x := by
  obtain ⟨b, o, e, hc⟩ := h.2.2 (by omega)
  have hk' : k < ts.length := by rw [h.1]; exact hk
  obtain ⟨A1, n1, c1, A2, n2, c2, h1, h2⟩ := hc k hk'
  exact ⟨b, o, A1, n1, c1, A2, n2, c2, ts[k], e, List.getElem?_eq_getElem hk', h1, h2⟩

theorem RdLT.take {w : World} {A : Option Addr} {n : Nat} {ts : List Tab} (h : RdLT w A n ts) (k : Nat) (hk : k ≤ n) : RdLT w A k (ts.take k) :=
  ⟨by rw [List.length_take, h.1]; omega, Nat.le_trans hk h.2.1, fun hn => by
    obtain ⟨b, o, e, hc⟩ := h.2.2 (by omega)
    refine ⟨b, o, e, fun j hj => ?_⟩
    have hj' : j < ts.length := by rw [List.length_take] at hj; omega
    have := hc j hj'
    simpa [List.getElem_take] using this⟩

/-! ### the order of tables, plainly -/
def ordT (a b : Tab) : Int := if a.lvl ≠ b.lvl then cmpI a.lvl b.lvl else if a.lvl = 0 then cmpI b.num a.num else cmpK a.fst b.fst
def numT (n least : Int) : Bool := decide (n ≥ least ∧ n ≤ 2147483647)
def keyT (k : Bs) : Bool := decide (1 ≤ k.length ∧ k.length ≤ 32)
def placeT (t : Tab) : Bool := numT t.num 1 && decide (0 ≤ t.lvl ∧ t.lvl < 4) && keyT t.fst && keyT t.lst && decide (cmpK t.fst t.lst ≤ 0) && numT t.size 1

set_option maxHeartbeats 400000 in
theorem cmpN_any (a b : Int) (w : World) :
    Calls Tryz.prog 48 #[.int .i64 a, .int .i64 b] w fun e w' => e = .returned (.int .i64 (cmpI a b)) ∧ w = w' := by
  go_enter Tryz.func48, Tryz.ntmps48
  go_wp2
  all_goals
    go_ret
    exact ⟨ret_int (by unfold cmpI; split <;> (try split) <;> omega), rfl⟩

set_option maxHeartbeats 400000 in
theorem enumber_any (a b : Int) (w : World) :
    Calls Tryz.prog 22 #[.int .i64 a, .int .i64 b] w fun e w' => e = .returned (.bool (numT a b)) ∧ w = w' := by
  unfold numT
  by_cases h1 : a ≥ b
  · go_enter Tryz.func22, Tryz.ntmps22
    go_wp2
    go_ret
    exact ⟨ret_bool (by first | rfl | (simp; omega) | (simp; done)| (simp; intros; omega)), rfl⟩
  · go_enter Tryz.func22, Tryz.ntmps22
    go_wp2
    go_ret
    exact ⟨ret_bool (by simp; intros; omega), rfl⟩

set_option maxHeartbeats 400000 in
theorem key_any (A : Option Addr) (n c : Nat) (x : Bs) (w : World) (h : Rd w A n x) :
    Calls Tryz.prog 51 #[.slice A n c] w fun e w' => e = .returned (.bool (keyT x)) ∧ w = w' := by
  unfold keyT
  have hl := h.1
  clear h
  by_cases h1 : 1 ≤ n
  · have e1 : (n : Int) ≥ 1 := by omega
    go_enter Tryz.func51, Tryz.ntmps51
    go_wp2
    go_ret
    exact ⟨ret_bool (decide_eq_decide.2 (by omega)), rfl⟩
  · have e1 : ¬ (n : Int) ≥ 1 := by omega
    go_enter Tryz.func51, Tryz.ntmps51
    go_wp2
    go_ret
    exact ⟨ret_bool (by first | rfl | (simp [hl]; done) | (simp [hl]; omega) | (simp [hl]; intros; omega)), rfl⟩

end Go.Proofs.YteooaplimiifiaaGreat
