/- The walk of SkipOrder, wholly. Conditions: what comes in reads. -/
import Derived.Test.YtddaagldelcbeaaInsP
import Derived.Test.YtddaagldelcbeaaFill
import Derived.Test.YtddaagldelcbeaaRf6Q
import Derived.BigRegion
import Derived.Test.YtddaagldelcbeaaSkX
import Derived.Test.YtddaagldelcbeaaCopyF
import Derived.Test.YtddaagldelcbeaaRdQ
import Derived.Test.YtddaagldelcbeaaKnow6
import Derived.Test.YtddaagldelcbeaaSkC
namespace Go.Proofs.Ytddaagldelcbeaa
set_option linter.unusedSimpArgs false
set_option linter.unusedVariables false

section
/-- Rising entries. -/
def Up (xs : List Ent) : Prop := xs.Pairwise fun a b => cmpE a b < 0
/-- An entry that compares as one of these. -/
def Has (xs : List Ent) (x : Ent) : Prop := ∃ y ∈ xs, cmpE y x = 0

theorem cmpE_self (a : Ent) : cmpE a a = 0 := by have := cmpE_anti a a; omega
theorem cmpE_sy {a b : Ent} (h : cmpE a b = 0) : cmpE b a = 0 := by rw [cmpE_anti a b]; omega
theorem cmpE_z {a b c : Ent} (h1 : cmpE a b = 0) (h2 : cmpE b c = 0) : cmpE a c = 0 := by
  have h3 := cmpE_trans a b c (by omega) (by omega)
  have h4 := cmpE_trans c b a (by rw [cmpE_anti b c]; omega) (by rw [cmpE_anti a b]; omega)
  have h5 := cmpE_anti a c
  omega
theorem cmpE_lz {a b c : Ent} (h1 : cmpE a b < 0) (h2 : cmpE b c ≤ 0) : cmpE a c < 0 := by
  have h3 := cmpE_trans a b c (by omega) h2
  rcases cmpE_range a c with h | h | h
  · omega
  · have h4 := cmpE_trans b c a h2 (by rw [cmpE_anti a c]; omega)
    have h5 := cmpE_anti a b
    omega
  · omega
theorem cmpE_zl {a b c : Ent} (h1 : cmpE a b ≤ 0) (h2 : cmpE b c < 0) : cmpE a c < 0 := by
  have h3 := cmpE_trans a b c h1 (by omega)
  rcases cmpE_range a c with h | h | h
  · omega
  · have h4 := cmpE_trans c a b (by rw [cmpE_anti a c]; omega) h1
    have h5 := cmpE_anti b c
    omega
  · omega

/-- Two risings with the same entries, as they compare, are alike. -/
theorem up_same {xs ys : List Ent} (hx : Up xs) (hy : Up ys) (h : ∀ x, Has xs x ↔ Has ys x) : xs.length = ys.length ∧ ∀ k (h1 : k < xs.length) (h2 : k < ys.length), cmpE xs[k] ys[k] = 0 := by
  induction xs generalizing ys with
  | nil =>
    cases ys with
    | nil => exact ⟨rfl, fun k h1 => absurd h1 (by simp)⟩
    | cons b bs =>
      obtain ⟨y, hy, _⟩ := (h b).2 ⟨b, by simp, cmpE_self b⟩
      simp at hy
  | cons a xs ih =>
    cases ys with
    | nil =>
      obtain ⟨y, hy, _⟩ := (h a).1 ⟨a, by simp, cmpE_self a⟩
      simp at hy
    | cons b bs =>
      have ha := List.pairwise_cons.1 hx
      have hb := List.pairwise_cons.1 hy
      have hab : cmpE a b = 0 := by
        obtain ⟨y, m1, e1⟩ := (h a).1 ⟨a, by simp, cmpE_self a⟩
        obtain ⟨z, m2, e2⟩ := (h b).2 ⟨b, by simp, cmpE_self b⟩
        rcases List.mem_cons.1 m1 with rfl | m1
        · exact cmpE_sy e1
        · rcases List.mem_cons.1 m2 with rfl | m2
          · exact e2
          · have l1 := cmpE_lz (hb.1 y m1) (by omega : cmpE y a ≤ 0)
            have l2 := cmpE_lz (ha.1 z m2) (by omega : cmpE z b ≤ 0)
            have := cmpE_anti a b
            omega
      have ht : ∀ x, Has xs x ↔ Has bs x := by
        intro x
        constructor
        · rintro ⟨y, m, e⟩
          obtain ⟨z, m2, e2⟩ := (h x).1 ⟨y, by simp [m], e⟩
          rcases List.mem_cons.1 m2 with rfl | m2
          · have := ha.1 y m
            have := cmpE_z (cmpE_z hab e2) (cmpE_sy e)
            omega
          · exact ⟨z, m2, e2⟩
        · rintro ⟨y, m, e⟩
          obtain ⟨z, m2, e2⟩ := (h x).2 ⟨y, by simp [m], e⟩
          rcases List.mem_cons.1 m2 with rfl | m2
          · have := hb.1 y m
            have := cmpE_z (cmpE_z (cmpE_sy hab) e2) (cmpE_sy e)
            omega
          · exact ⟨z, m2, e2⟩
      obtain ⟨h1, h2⟩ := ih ha.2 hb.2 ht
      refine ⟨by simp [h1], fun k k1 k2 => ?_⟩
      cases k with
      | zero => exact hab
      | succ k => exact h2 k (by simpa using k1) (by simpa using k2)

theorem has_ins (xs : List Ent) (x z : Ent) : Has (insP xs x).1 z ↔ Has xs z ∨ (mayE x = true ∧ cmpE x z = 0) := by
  have hs := (List.takeWhile_append_dropWhile (p := ahE x) (l := xs)).symm
  unfold insP
  by_cases hm : mayE x = true
  · rw [if_pos hm]
    generalize xs.takeWhile (ahE x) = A at hs ⊢
    generalize xs.dropWhile (ahE x) = D at hs ⊢
    subst hs
    cases D with
    | nil => simp [Has, hm]
    | cons y ys =>
      by_cases hc : cmpE y x = 0
      · simp only [hc, if_true]
        constructor
        · exact .inl
        · rintro (h | ⟨_, h⟩)
          · exact h
          · exact ⟨y, by simp, cmpE_z hc h⟩
      · simp only [hc, if_false]
        unfold Has
        simp only [List.mem_append, List.mem_cons]
        constructor
        · rintro ⟨q, (h | rfl | h), e⟩
          · exact .inl ⟨q, .inl h, e⟩
          · exact .inr ⟨hm, e⟩
          · exact .inl ⟨q, .inr h, e⟩
        · rintro (⟨q, (h | h), e⟩ | ⟨_, e⟩)
          · exact ⟨q, .inl h, e⟩
          · exact ⟨q, .inr (.inr h), e⟩
          · exact ⟨x, .inr (.inl rfl), e⟩
  · rw [if_neg hm]
    simp [hm]

theorem has_all (xs : List Ent) (z : Ent) : Has (xs.foldl (fun l x => (insP l x).1) []) z ↔ ∃ x ∈ xs, mayE x = true ∧ cmpE x z = 0 := by
  have key : ∀ (xs ys : List Ent), Has (xs.foldl (fun l x => (insP l x).1) ys) z ↔ Has ys z ∨ ∃ x ∈ xs, mayE x = true ∧ cmpE x z = 0 := by
    intro xs
    induction xs with
    | nil => intro ys; simp
    | cons x xs ih =>
      intro ys
      rw [List.foldl_cons, ih, has_ins]
      simp only [List.mem_cons, exists_eq_or_imp]
      exact or_assoc
  rw [key]
  simp [Has]

/-- What is turned round, and begun anywhere. -/
theorem turn_mem (n t j : Nat) (hn : 0 < n) (ht : t < n) (hj : j < n) : ∃ i, i < n ∧ (t + n - i) % n = j := by
  by_cases h : j ≤ t
  · refine ⟨t - j, by omega, ?_⟩
    rw [show t + n - (t - j) = j + n by omega, Nat.add_mod_right, Nat.mod_eq_of_lt hj]
  · refine ⟨t + n - j, by omega, ?_⟩
    rw [show t + n - (t + n - j) = j by omega, Nat.mod_eq_of_lt hj]
/-- The entries, turned round. -/
def turnd (xs : List Ent) (t k : Nat) : List Ent := (List.range k).map fun i => (xs[(t + xs.length - i) % xs.length]?).getD ⟨[], 0, 0, []⟩
theorem turnd_succ (xs : List Ent) (t k : Nat) (h : (t + xs.length - k) % xs.length < xs.length) : turnd xs t (k + 1) = turnd xs t k ++ [xs[(t + xs.length - k) % xs.length]] := by
  unfold turnd
  rw [List.range_succ, List.map_append, List.map_singleton, List.getElem?_eq_getElem h]
  rfl
theorem turnd_mem (xs : List Ent) (t : Nat) (ht : t < xs.length) (x : Ent) : x ∈ turnd xs t xs.length ↔ x ∈ xs := by
  have hn : 0 < xs.length := by omega
  unfold turnd
  rw [List.mem_map]
  constructor
  · rintro ⟨i, hi, rfl⟩
    have := Nat.mod_lt (t + xs.length - i) hn
    rw [List.getElem?_eq_getElem this]
    exact List.getElem_mem _
  · intro hx
    obtain ⟨j, hj, rfl⟩ := List.getElem_of_mem hx
    obtain ⟨i, hi, e⟩ := turn_mem xs.length t j hn ht hj
    exact ⟨i, List.mem_range.2 hi, by rw [e, List.getElem?_eq_getElem hj]; rfl⟩
theorem has_turn (xs : List Ent) (t : Nat) (ht : t < xs.length) (z : Ent) : Has ((turnd xs t xs.length).foldl (fun l x => (insP l x).1) []) z ↔ Has (xs.foldl (fun l x => (insP l x).1) []) z := by
  rw [has_all, has_all]
  simp only [turnd_mem xs t ht]
end

section
open Go.RowKit

theorem sub_next {x y : Ent} {xs ys : List Ent} (h : (x :: xs).Sublist (y :: ys)) (hn : y ≠ x) : (x :: xs).Sublist ys := by
  cases h with
  | cons _ h => exact h
  | cons_cons _ h => exact absurd rfl hn
theorem sub_on {x : Ent} {xs ys : List Ent} (h : (x :: xs).Sublist ys) : xs.Sublist ys := (List.sublist_cons_self x xs).trans h

set_option maxRecDepth 100000 in
set_option maxHeartbeats 8000000 in
theorem within_any (A : Option Addr) (n c : Nat) (B : Option Addr) (m d : Nat) (xs ys : List Ent) (w : World) (hx : RdL w A n xs) (hnc : n ≤ c) (hy : RdL w B m ys) (hmd : m ≤ d) (hs : xs.Sublist ys) :
    Calls Try.prog 53 #[.slice A n c, .slice B m d] w fun e w' => e = .returned (.bool true) ∧ Ext w w' := by
  have HX := Lib.hid hx
  have HY := Lib.hid hy
  have HS := Lib.hid hs
  have hxl := hx.1
  have hyl := hy.1
  have hn41 := hx.2.1
  have hm41 := hy.2.1
  unfold B41 at hn41 hm41
  clear hx hy hs
  go_enter Try.func53, Try.ntmps53
  go_wp2
  go_loopw [5, 6] (fun u v wr => ∃ a k : Nat, u = .int .i64 a ∧ v = .int .i64 k ∧ k ≤ n ∧ a ≤ m ∧ Hid ((xs.drop k).Sublist (ys.drop a)) ∧ Hid (Ext w wr)) (fun _ v _ => n - (intOf v).toNat)
  case atStart => exact ⟨0, 0, rfl, rfl, Nat.zero_le _, Nat.zero_le _, Lib.hid (by simpa using HS.out), Lib.hid (by with_reducible (repeat (first | exact Ext.rfl_ _ | assumption | refine Ext.drew ?_ | refine Ext.drewN ?_ _ | refine Ext.alloc ?_ _ | refine Ext.trans ?_ (by assumption))))⟩
  case round =>
    obtain ⟨a, k, rfl, rfl, hk, ha, hsub, hE⟩ := hrel
    by_cases hlt : k < n
    · have hltI : (k : Int) < (n : Int) := by omega
      have hxk : k < xs.length := by omega
      have hdk : xs.drop k = xs[k] :: xs.drop (k + 1) := (List.drop_eq_getElem_cons hxk)
      have HDK := Lib.hid hdk
      clear hdk
      obtain ⟨b, o, rfl, _⟩ := HX.out.2.2 (by omega)
      have hncI : (n : Int) ≤ (c : Int) := by omega
      obtain ⟨wo, hwo⟩ : ∃ wo : World, wo = wr := ⟨_, rfl⟩
      subst hwo
      go_wp2
      go_loopw [5] (fun u wq => ∃ a' : Nat, u = .int .i64 a' ∧ a' ≤ m ∧ Hid ((xs.drop k).Sublist (ys.drop a')) ∧ Hid (Ext w wq)) (fun u _ => m - (intOf u).toNat)
      case atStart => exact ⟨a, rfl, ha, hsub, hE⟩
      case round =>
        clear ha hsub hE
        obtain ⟨a', rfl, ha, hsub, hE⟩ := hrel
        have ham : a' < m := by
          rcases Nat.lt_or_ge a' m with h | h
          · exact h
          · have h1 := hsub.out
            rw [HDK.out, List.drop_eq_nil_of_le (by omega : ys.length ≤ a')] at h1
            cases h1
        have hya : a' < ys.length := by omega
        have hda : ys.drop a' = ys[a'] :: ys.drop (a' + 1) := (List.drop_eq_getElem_cons hya)
        have HDA := Lib.hid hda
        have hamI : (a' : Int) < (m : Int) := by omega
        have hmdI : (m : Int) ≤ (d : Int) := by omega
        obtain ⟨b2, o2, rfl, _⟩ := HY.out.2.2 (by omega)
        obtain ⟨A1, n1, c1, A2, n2, c2, _, e0, e1, e2, e3, hrx⟩ := r6at HX.out hlt hE.out
        obtain ⟨A3, n3, c3, A4, n4, c4, _, f0, f1, f2, f3, hry⟩ := r6at HY.out ham hE.out
        have HRX := Lib.hid (hrx.ext hE.out)
        have HRY := Lib.hid (hry.ext hE.out)
        clear hda hrx hry
        obtain ⟨x, hxx⟩ : ∃ x, x = xs[k] := ⟨_, rfl⟩
        obtain ⟨y, hyy⟩ : ∃ y, y = ys[a'] := ⟨_, rfl⟩
        rw [← hxx] at e1 e2 HRX HDK
        rw [← hyy] at f1 f2 HRY HDA
        have HKE := Lib.hid (And.intro (And.intro e0 (And.intro e1 (And.intro e2 e3))) (And.intro f0 (And.intro f1 (And.intro f2 f3))))
        clear hxx hyy
        have hsub2 := hsub.out
        rw [HDK.out, HDA.out] at hsub2
        have HSUB := Lib.hid hsub2
        clear hsub2 hsub
        go_wp2
        refine wp_region_held_drew (S := (fun w' => (w'.cell? ⟨b, o + k * 4, none⟩ = some (.slice A1 n1 c1) ∧ w'.cell? ⟨b, o + k * 4 + 1, none⟩ = some (.int .i64 x.seq) ∧ w'.cell? ⟨b, o + k * 4 + 2, none⟩ = some (.int .i64 x.kind) ∧ w'.cell? ⟨b, o + k * 4 + 3, none⟩ = some (.slice A2 n2 c2)) ∧ (w'.cell? ⟨b2, o2 + a' * 4, none⟩ = some (.slice A3 n3 c3) ∧ w'.cell? ⟨b2, o2 + a' * 4 + 1, none⟩ = some (.int .i64 y.seq) ∧ w'.cell? ⟨b2, o2 + a' * 4 + 2, none⟩ = some (.int .i64 y.kind) ∧ w'.cell? ⟨b2, o2 + a' * 4 + 3, none⟩ = some (.slice A4 n4 c4)))) (by kernel_rfl) (by (try dsimp only); exact ⟨⟨Ext.keeps (show Ext wr _ from (by with_reducible (repeat (first | exact Ext.rfl_ _ | assumption | refine Ext.drew ?_ | refine Ext.drewN ?_ _ | refine Ext.alloc ?_ _ | refine Ext.trans ?_ (by assumption))))) _ _ _ HKE.out.1.1, Ext.keeps (show Ext wr _ from (by with_reducible (repeat (first | exact Ext.rfl_ _ | assumption | refine Ext.drew ?_ | refine Ext.drewN ?_ _ | refine Ext.alloc ?_ _ | refine Ext.trans ?_ (by assumption))))) _ _ _ HKE.out.1.2.1, Ext.keeps (show Ext wr _ from (by with_reducible (repeat (first | exact Ext.rfl_ _ | assumption | refine Ext.drew ?_ | refine Ext.drewN ?_ _ | refine Ext.alloc ?_ _ | refine Ext.trans ?_ (by assumption))))) _ _ _ HKE.out.1.2.2.1, Ext.keeps (show Ext wr _ from (by with_reducible (repeat (first | exact Ext.rfl_ _ | assumption | refine Ext.drew ?_ | refine Ext.drewN ?_ _ | refine Ext.alloc ?_ _ | refine Ext.trans ?_ (by assumption))))) _ _ _ HKE.out.1.2.2.2⟩, Ext.keeps (show Ext wr _ from (by with_reducible (repeat (first | exact Ext.rfl_ _ | assumption | refine Ext.drew ?_ | refine Ext.drewN ?_ _ | refine Ext.alloc ?_ _ | refine Ext.trans ?_ (by assumption))))) _ _ _ HKE.out.2.1, Ext.keeps (show Ext wr _ from (by with_reducible (repeat (first | exact Ext.rfl_ _ | assumption | refine Ext.drew ?_ | refine Ext.drewN ?_ _ | refine Ext.alloc ?_ _ | refine Ext.trans ?_ (by assumption))))) _ _ _ HKE.out.2.2.1, Ext.keeps (show Ext wr _ from (by with_reducible (repeat (first | exact Ext.rfl_ _ | assumption | refine Ext.drew ?_ | refine Ext.drewN ?_ _ | refine Ext.alloc ?_ _ | refine Ext.trans ?_ (by assumption))))) _ _ _ HKE.out.2.2.2.1, Ext.keeps (show Ext wr _ from (by with_reducible (repeat (first | exact Ext.rfl_ _ | assumption | refine Ext.drew ?_ | refine Ext.drewN ?_ _ | refine Ext.alloc ?_ _ | refine Ext.trans ?_ (by assumption))))) _ _ _ HKE.out.2.2.2.2⟩) (fun hHeld => ?_)
        refine wpAnyH_take (i := 0) (oi := ({ dst := some 13, op := Go.Op.move (Go.Operand.tmp 5), type := 3, pos := "law.go:211", after := #[], guard := none } : Go.Oper)) (v := ?v1) rfl (by kernel_rfl) (by kernel_rfl) (by kernel_rfl) (fun _ _ _ h => h) (Or.inl ⟨by rfl, ?hy1⟩) (by assumption) ?rest1
        case hy1 => (intro w hSw; (try dsimp only at hSw); go_simp; (try with_reducible rfl))
        (try simp only [Act.put, List.getElem_toArray, List.getElem_cons_zero, List.getElem_cons_succ, List.setIfInBounds_toArray, List.set_cons_zero, List.set_cons_succ])
        refine wpAnyH_take (i := 1) (oi := ({ dst := some 14, op := Go.Op.move (Go.Operand.tmp 1), type := 26, pos := "law.go:211", after := #[], guard := none } : Go.Oper)) (v := ?v2) rfl (by kernel_rfl) (by kernel_rfl) (by kernel_rfl) (fun _ _ _ h => h) (Or.inl ⟨by rfl, ?hy2⟩) (by assumption) ?rest2
        case hy2 => (intro w hSw; (try dsimp only at hSw); go_simp; (try with_reducible rfl))
        (try simp only [Act.put, List.getElem_toArray, List.getElem_cons_zero, List.getElem_cons_succ, List.setIfInBounds_toArray, List.set_cons_zero, List.set_cons_succ])
        refine wpAnyH_take (i := 2) (oi := ({ dst := some 15, op := Go.Op.call { callee := Go.Callee.builtin Go.Builtin.len, args := #[Go.Operand.tmp 14], argTypes := #[26] }, type := 3, pos := "law.go:211", after := #[{ on := 1, ground := Go.Ground.data }], guard := none } : Go.Oper)) (v := ?v3) rfl (by kernel_rfl) (by kernel_rfl) (by kernel_rfl) (fun _ _ _ h => h) (Or.inl ⟨by rfl, ?hy3⟩) (by assumption) ?rest3
        case hy3 => (intro w hSw; (try dsimp only at hSw); go_simp; (try with_reducible rfl))
        (try simp only [Act.put, List.getElem_toArray, List.getElem_cons_zero, List.getElem_cons_succ, List.setIfInBounds_toArray, List.set_cons_zero, List.set_cons_succ])
        refine wpAnyH_take (i := 3) (oi := ({ dst := some 16, op := Go.Op.binOp Go.BinOp.lss 3 (Go.Operand.tmp 13) (Go.Operand.tmp 15) 3, type := 4, pos := "law.go:211", after := #[{ on := 0, ground := Go.Ground.data }, { on := 2, ground := Go.Ground.data }], guard := none } : Go.Oper)) (v := ?v4) rfl (by kernel_rfl) (by kernel_rfl) (by kernel_rfl) (fun _ _ _ h => h) (Or.inl ⟨by rfl, ?hy4⟩) (by assumption) ?rest4
        case hy4 => (intro w hSw; (try dsimp only at hSw); go_simp; (try with_reducible rfl))
        (try simp only [Act.put, List.getElem_toArray, List.getElem_cons_zero, List.getElem_cons_succ, List.setIfInBounds_toArray, List.set_cons_zero, List.set_cons_succ])
        refine wpAnyH_take (i := 4) (oi := ({ dst := some 17, op := Go.Op.move (Go.Operand.tmp 16), type := 4, pos := "law.go:211", after := #[{ on := 3, ground := Go.Ground.data }], guard := none } : Go.Oper)) (v := ?v5) rfl (by kernel_rfl) (by kernel_rfl) (by kernel_rfl) (fun _ _ _ h => h) (Or.inl ⟨by rfl, ?hy5⟩) (by assumption) ?rest5
        case hy5 => (intro w hSw; (try dsimp only at hSw); go_simp; (try with_reducible rfl))
        (try simp only [Act.put, List.getElem_toArray, List.getElem_cons_zero, List.getElem_cons_succ, List.setIfInBounds_toArray, List.set_cons_zero, List.set_cons_succ])
        refine wpAnyH_take (i := 5) (oi := ({ dst := some 18, op := Go.Op.move (Go.Operand.tmp 1), type := 26, pos := "law.go:211", after := #[{ on := 4, ground := Go.Ground.guard }], guard := some (4, true) } : Go.Oper)) (v := ?v6) rfl (by kernel_rfl) (by kernel_rfl) (by kernel_rfl) (fun _ _ _ h => h) (Or.inl ⟨by rfl, ?hy6⟩) (by assumption) ?rest6
        case hy6 => (intro w hSw; (try dsimp only at hSw); go_simp; (try with_reducible rfl))
        (try simp only [Act.put, List.getElem_toArray, List.getElem_cons_zero, List.getElem_cons_succ, List.setIfInBounds_toArray, List.set_cons_zero, List.set_cons_succ])
        refine wpAnyH_take (i := 6) (oi := ({ dst := some 19, op := Go.Op.move (Go.Operand.tmp 5), type := 3, pos := "law.go:211", after := #[{ on := 4, ground := Go.Ground.guard }], guard := some (4, true) } : Go.Oper)) (v := ?v7) rfl (by kernel_rfl) (by kernel_rfl) (by kernel_rfl) (fun _ _ _ h => h) (Or.inl ⟨by rfl, ?hy7⟩) (by assumption) ?rest7
        case hy7 => (intro w hSw; (try dsimp only at hSw); go_simp; (try with_reducible rfl))
        (try simp only [Act.put, List.getElem_toArray, List.getElem_cons_zero, List.getElem_cons_succ, List.setIfInBounds_toArray, List.set_cons_zero, List.set_cons_succ])
        refine wpAnyH_take (i := 7) (oi := ({ dst := some 20, op := Go.Op.indexAddr 26 (Go.Operand.tmp 18) (Go.Operand.tmp 19), type := 0, pos := "law.go:211", after := #[{ on := 5, ground := Go.Ground.data }, { on := 6, ground := Go.Ground.data }, { on := 4, ground := Go.Ground.guard }], guard := some (4, true) } : Go.Oper)) (v := ?v8) rfl (by kernel_rfl) (by kernel_rfl) (by kernel_rfl) (fun _ _ _ h => h) (Or.inl ⟨by rfl, ?hy8⟩) (by assumption) ?rest8
        case hy8 => (intro w hSw; (try dsimp only at hSw); go_simp; (try with_reducible rfl))
        (try simp only [Act.put, List.getElem_toArray, List.getElem_cons_zero, List.getElem_cons_succ, List.setIfInBounds_toArray, List.set_cons_zero, List.set_cons_succ])
        refine wpAnyH_take (i := 8) (oi := ({ dst := some 21, op := Go.Op.load 40 (Go.Operand.tmp 20), type := 40, pos := "law.go:211", after := #[{ on := 7, ground := Go.Ground.data }, { on := 4, ground := Go.Ground.guard }], guard := some (4, true) } : Go.Oper)) (v := ?v9) rfl (by kernel_rfl) (by kernel_rfl) (by kernel_rfl) (fun _ _ _ h => h) (Or.inl ⟨by rfl, ?hy9⟩) (by assumption) ?rest9
        case hy9 => (intro w hSw; (try dsimp only at hSw); go_simp; (try with_reducible rfl))
        (try simp only [Act.put, List.getElem_toArray, List.getElem_cons_zero, List.getElem_cons_succ, List.setIfInBounds_toArray, List.set_cons_zero, List.set_cons_succ])
        refine wpAnyH_take (i := 9) (oi := ({ dst := some 22, op := Go.Op.move (Go.Operand.tmp 0), type := 26, pos := "law.go:211", after := #[{ on := 4, ground := Go.Ground.guard }], guard := some (4, true) } : Go.Oper)) (v := ?v10) rfl (by kernel_rfl) (by kernel_rfl) (by kernel_rfl) (fun _ _ _ h => h) (Or.inl ⟨by rfl, ?hy10⟩) (by assumption) ?rest10
        case hy10 => (intro w hSw; (try dsimp only at hSw); go_simp; (try with_reducible rfl))
        (try simp only [Act.put, List.getElem_toArray, List.getElem_cons_zero, List.getElem_cons_succ, List.setIfInBounds_toArray, List.set_cons_zero, List.set_cons_succ])
        refine wpAnyH_take (i := 10) (oi := ({ dst := some 23, op := Go.Op.move (Go.Operand.tmp 6), type := 3, pos := "law.go:211", after := #[{ on := 4, ground := Go.Ground.guard }], guard := some (4, true) } : Go.Oper)) (v := ?v11) rfl (by kernel_rfl) (by kernel_rfl) (by kernel_rfl) (fun _ _ _ h => h) (Or.inl ⟨by rfl, ?hy11⟩) (by assumption) ?rest11
        case hy11 => (intro w hSw; (try dsimp only at hSw); go_simp; (try with_reducible rfl))
        (try simp only [Act.put, List.getElem_toArray, List.getElem_cons_zero, List.getElem_cons_succ, List.setIfInBounds_toArray, List.set_cons_zero, List.set_cons_succ])
        refine wpAnyH_take (i := 11) (oi := ({ dst := some 24, op := Go.Op.indexAddr 26 (Go.Operand.tmp 22) (Go.Operand.tmp 23), type := 0, pos := "law.go:211", after := #[{ on := 9, ground := Go.Ground.data }, { on := 10, ground := Go.Ground.data }, { on := 4, ground := Go.Ground.guard }], guard := some (4, true) } : Go.Oper)) (v := ?v12) rfl (by kernel_rfl) (by kernel_rfl) (by kernel_rfl) (fun _ _ _ h => h) (Or.inl ⟨by rfl, ?hy12⟩) (by assumption) ?rest12
        case hy12 => (intro w hSw; (try dsimp only at hSw); go_simp; (try with_reducible rfl))
        (try simp only [Act.put, List.getElem_toArray, List.getElem_cons_zero, List.getElem_cons_succ, List.setIfInBounds_toArray, List.set_cons_zero, List.set_cons_succ])
        refine wpAnyH_take (i := 12) (oi := ({ dst := some 25, op := Go.Op.load 40 (Go.Operand.tmp 24), type := 40, pos := "law.go:211", after := #[{ on := 11, ground := Go.Ground.data }, { on := 4, ground := Go.Ground.guard }], guard := some (4, true) } : Go.Oper)) (v := ?v13) rfl (by kernel_rfl) (by kernel_rfl) (by kernel_rfl) (fun _ _ _ h => h) (Or.inl ⟨by rfl, ?hy13⟩) (by assumption) ?rest13
        case hy13 => (intro w hSw; (try dsimp only at hSw); go_simp; (try with_reducible rfl))
        (try simp only [Act.put, List.getElem_toArray, List.getElem_cons_zero, List.getElem_cons_succ, List.setIfInBounds_toArray, List.set_cons_zero, List.set_cons_succ])
        refine wpAnyH_ready (rs := [13]) (by kernel_rfl) (by simp) ?_
        refine AllReadyH.cons (o := ({ dst := some 26, op := Go.Op.call { callee := Go.Callee.value (Go.Operand.func 22), args := #[Go.Operand.tmp 21, Go.Operand.tmp 25], argTypes := #[40, 40] }, type := 4, pos := "law.go:211", after := #[{ on := 8, ground := Go.Ground.data }, { on := 12, ground := Go.Ground.data }, { on := 4, ground := Go.Ground.chain }, { on := 4, ground := Go.Ground.guard }], guard := some (4, true) } : Go.Oper)) rfl (fun K hK => ?_) AllReadyH.nil
        go_simp
        refine (rsame_any _ _ y x _ ?_ ?_).mono ?_; exact HRY.out.ext (by with_reducible (repeat (first | exact Ext.rfl_ _ | assumption | refine Ext.drew ?_ | refine Ext.drewN ?_ _ | refine Ext.alloc ?_ _ | refine Ext.trans ?_ (by assumption)))); exact HRX.out.ext (by with_reducible (repeat (first | exact Ext.rfl_ _ | assumption | refine Ext.drew ?_ | refine Ext.drewN ?_ _ | refine Ext.alloc ?_ _ | refine Ext.trans ?_ (by assumption)))); rintro e w5 ⟨rfl, hw5⟩
        (try (go_wp2_with fail))
        refine hK.out _ _ (by (try dsimp only); exact ⟨⟨Ext.keeps (show Ext wr _ from (by with_reducible (repeat (first | exact Ext.rfl_ _ | assumption | refine Ext.drew ?_ | refine Ext.drewN ?_ _ | refine Ext.alloc ?_ _ | refine Ext.trans ?_ (by assumption))))) _ _ _ HKE.out.1.1, Ext.keeps (show Ext wr _ from (by with_reducible (repeat (first | exact Ext.rfl_ _ | assumption | refine Ext.drew ?_ | refine Ext.drewN ?_ _ | refine Ext.alloc ?_ _ | refine Ext.trans ?_ (by assumption))))) _ _ _ HKE.out.1.2.1, Ext.keeps (show Ext wr _ from (by with_reducible (repeat (first | exact Ext.rfl_ _ | assumption | refine Ext.drew ?_ | refine Ext.drewN ?_ _ | refine Ext.alloc ?_ _ | refine Ext.trans ?_ (by assumption))))) _ _ _ HKE.out.1.2.2.1, Ext.keeps (show Ext wr _ from (by with_reducible (repeat (first | exact Ext.rfl_ _ | assumption | refine Ext.drew ?_ | refine Ext.drewN ?_ _ | refine Ext.alloc ?_ _ | refine Ext.trans ?_ (by assumption))))) _ _ _ HKE.out.1.2.2.2⟩, Ext.keeps (show Ext wr _ from (by with_reducible (repeat (first | exact Ext.rfl_ _ | assumption | refine Ext.drew ?_ | refine Ext.drewN ?_ _ | refine Ext.alloc ?_ _ | refine Ext.trans ?_ (by assumption))))) _ _ _ HKE.out.2.1, Ext.keeps (show Ext wr _ from (by with_reducible (repeat (first | exact Ext.rfl_ _ | assumption | refine Ext.drew ?_ | refine Ext.drewN ?_ _ | refine Ext.alloc ?_ _ | refine Ext.trans ?_ (by assumption))))) _ _ _ HKE.out.2.2.1, Ext.keeps (show Ext wr _ from (by with_reducible (repeat (first | exact Ext.rfl_ _ | assumption | refine Ext.drew ?_ | refine Ext.drewN ?_ _ | refine Ext.alloc ?_ _ | refine Ext.trans ?_ (by assumption))))) _ _ _ HKE.out.2.2.2.1, Ext.keeps (show Ext wr _ from (by with_reducible (repeat (first | exact Ext.rfl_ _ | assumption | refine Ext.drew ?_ | refine Ext.drewN ?_ _ | refine Ext.alloc ?_ _ | refine Ext.trans ?_ (by assumption))))) _ _ _ HKE.out.2.2.2.2⟩) (fun hHeld => ?_)
        clear hK K
        (try simp only [Act.put, List.getElem_toArray, List.getElem_cons_zero, List.getElem_cons_succ, List.setIfInBounds_toArray, List.set_cons_zero, List.set_cons_succ])
        refine wpAnyH_take (i := 14) (oi := ({ dst := some 27, op := Go.Op.unOp Go.UnOp.not 4 (Go.Operand.tmp 26), type := 4, pos := "law.go:211", after := #[{ on := 13, ground := Go.Ground.data }, { on := 4, ground := Go.Ground.guard }], guard := some (4, true) } : Go.Oper)) (v := ?v14) rfl (by kernel_rfl) (by kernel_rfl) (by kernel_rfl) (fun _ _ _ h => h) (Or.inl ⟨by rfl, ?hy14⟩) (by assumption) ?rest14
        case hy14 => (intro w hSw; (try dsimp only at hSw); go_simp; (try with_reducible rfl))
        (try simp only [Act.put, List.getElem_toArray, List.getElem_cons_zero, List.getElem_cons_succ, List.setIfInBounds_toArray, List.set_cons_zero, List.set_cons_succ])
        refine wpAnyH_take (i := 15) (oi := ({ dst := some 28, op := Go.Op.pick (Go.Operand.tmp 17) (Go.Operand.tmp 27) (Go.Operand.const (Go.Value.bool false)), type := 4, pos := "law.go:211", after := #[{ on := 4, ground := Go.Ground.data }, { on := 14, ground := Go.Ground.data }], guard := none } : Go.Oper)) (v := ?v15) rfl (by kernel_rfl) (by kernel_rfl) (by kernel_rfl) (fun _ _ _ h => h) (Or.inl ⟨by rfl, ?hy15⟩) (by assumption) ?rest15
        case hy15 => (intro w hSw; (try dsimp only at hSw); go_simp; (try with_reducible rfl))
        (try simp only [Act.put, List.getElem_toArray, List.getElem_cons_zero, List.getElem_cons_succ, List.setIfInBounds_toArray, List.set_cons_zero, List.set_cons_succ])
        refine wpAnyH_done (by kernel_rfl) ?_ _
        all_goals
          have X5 := Lib.hid (hE.out.trans (show Ext wr w5 from (by with_reducible (repeat (first | exact Ext.rfl_ _ | assumption | refine Ext.drew ?_ | refine Ext.drewN ?_ _ | refine Ext.alloc ?_ _ | refine Ext.trans ?_ (by assumption))))))
          clear hw5 e0 e1 e2 e3 f0 f1 f2 f3
          by_cases hq : y = x
          · rw [show decide (y = x) = true from decide_eq_true hq]
            have HQ := Lib.hid hq
            clear hq
            have hne : ((a' : Int) == (m : Int)) = false := by simp; omega
            go_wp2
            go_roundw
            case rel => exact ⟨a', k + 1, rfl, by go_num, by omega, by omega, Lib.hid (by rw [HDA.out]; exact sub_on HSUB.out), Lib.hid (X5.out.trans (by with_reducible (repeat (first | exact Ext.rfl_ _ | assumption | refine Ext.drew ?_ | refine Ext.drewN ?_ _ | refine Ext.alloc ?_ _ | refine Ext.trans ?_ (by assumption)))))⟩
            case measure => simp [intOf]; omega
          · rw [show decide (y = x) = false from decide_eq_false hq]
            have HQ := Lib.hid hq
            clear hq
            go_wp2
            go_roundw
            case rel => exact ⟨a' + 1, by go_num, by omega, Lib.hid (by rw [HDK.out]; exact sub_next HSUB.out HQ.out), Lib.hid (X5.out.trans (by with_reducible (repeat (first | exact Ext.rfl_ _ | assumption | refine Ext.drew ?_ | refine Ext.drewN ?_ _ | refine Ext.alloc ?_ _ | refine Ext.trans ?_ (by assumption)))))⟩
            case measure => simp [intOf]; omega
    · have hltI : ¬ (k : Int) < (n : Int) := by omega
      clear hlt
      go_wp2
      go_ret
      exact ⟨rfl, hE.out.trans (by with_reducible (repeat (first | exact Ext.rfl_ _ | assumption | refine Ext.drew ?_ | refine Ext.drewN ?_ _ | refine Ext.alloc ?_ _ | refine Ext.trans ?_ (by assumption))))⟩
end


section
open Go.RowKit Go.Shelf
attribute [local go_sem] Oper.semAt_some

theorem Apt.keptX {X : Nat → Prop} {a b : World} {base : Nat} {A : Option Addr} {n : Nat} (h : Apt a base A n) (k : Kept X a b) (hX : 0 < n → ∀ p, A = some p → X p.block) : Apt b base A n := fun hn p hp => by
  rcases h hn p hp with h | ⟨cs, fr, h⟩
  · exact .inl h
  · exact .inr ⟨cs, fr, (k.block _ (Array.getElem?_eq_some_iff.1 h).1 (hX hn p hp)).trans h⟩
theorem OwnH.keptX {X : Nat → Prop} {a b : World} {base : Nat} {v : Value} {hs : List Hdr} {xs : List Ent} (h : OwnH a base v hs xs) (k : Kept X a b) (hX : ∀ g, v.ownBlock = some g → X g) (hZ : ∀ hd ∈ hs, HdZ X hd) : OwnH b base v hs xs := by
  obtain ⟨hl, ho, hr⟩ := h
  refine ⟨hl, ⟨ho.1, ?_⟩, fun i h1 h2 => ?_⟩
  · rcases ho.2 with hn | ⟨g, cap, cur, rfl, hb, hgg, rest⟩
    · exact .inl hn
    · exact .inr ⟨g, cap, cur, rfl, hb, (k.block g (Array.getElem?_eq_some_iff.1 hgg).1 (hX g rfl)).trans hgg, rest⟩
  · have e := hr i h1 h2
    have z := hZ hs[i] (List.getElem_mem h1)
    exact ⟨e.1.keptX k z.1 z.2, e.2.1.keptX k z.1, e.2.2.keptX k z.2⟩
theorem HdZ.mono {Z Z' : Nat → Prop} {h : Hdr} (k : HdZ Z h) (hz : ∀ b, Z b → Z' b) : HdZ Z' h := ⟨fun hn a ha => hz _ (k.1 hn a ha), fun hn a ha => hz _ (k.2 hn a ha)⟩

/-- 'append(out, x)' of entries, within a fence. -/
theorem wpi_appH {F : Fence} {n : Nat} {ops : Array Oper} {rest : List Oper} {o : Oper} {a : Act} {w : World} {Q : Exit → Act → World → Prop} (hgd : o.guard = none) (s x : Operand)
    (ho : o.op = .call { callee := .builtin .append, args := #[s, x], argTypes := #[26, 26] })
    (base : Nat) (v : Value) (hs : List Hdr) (xs : List Ent) (hsv : a.eval s = v) (hown : OwnH w base v hs xs) (A : Option Addr) (m c : Nat) (ks : List Hdr) (ys : List Ent) (hx : a.eval x = .slice A m c) (hr : RdH w base A m ks ys)
    (hsz : xs.length + ys.length ≤ B41) (hbase : base ≤ w.heap.size)
    (h : ∀ v' w', OwnH w' base v' (hs ++ ks) (xs ++ ys) → w.grownBy w' v.ownBlock → (v' = .slice none 0 0 → v = .slice none 0 0) → wpListIn F n Try.prog ops Q rest (a.put o.dst v') w') : wpListIn F n Try.prog ops Q (o :: rest) a w := by
  refine wpListIn_plain hgd fun K hK => ?_
  obtain ⟨v', w', hrun, h1, h2, h3⟩ := run_appH w o.type base v hs xs hown A m c ks ys hr hsz hbase
  unfold Oper.wpIn
  refine ⟨?_, ?_⟩
  · simp [Oper.about, ho, resolve, Target.leads, Sem.run_pure]
  · rw [Oper.semAt_plain F _ _ (by rw [ho]; intro c hc'; cases hc')]
    simp [execOp, ho, resolve, invoke, builtin, hsv, hx, hrun, Result.andThen]
    exact hK _ _ (h v' w' h1 h2 h3)

theorem RdL.keep {w w' : World} {A : Option Addr} {n : Nat} {xs : List Ent} (h : RdL w A n xs) (hk : ∀ p v, w.cell? p = some v → w'.cell? p = some v) : RdL w' A n xs :=
  ⟨h.1, h.2.1, fun hn => by
    obtain ⟨b, o, e, hc⟩ := h.2.2 hn
    refine ⟨b, o, e, fun k hk' => ?_⟩
    obtain ⟨A1, n1, c1, A2, n2, c2, ⟨h0, h1, h2, h3⟩, A, n, c, A', n', c', he, r1, r2, rest⟩ := hc k hk'
    exact ⟨A1, n1, c1, A2, n2, c2, ⟨hk _ _ h0, hk _ _ h1, hk _ _ h2, hk _ _ h3⟩, A, n, c, A', n', c', he, r1.keep fun b o v h => hk _ _ h, r2.keep fun b o v h => hk _ _ h, rest⟩⟩
/-- Where what was gathered may lie. -/
def levU (B : Nat) (T : Nat → Prop) (k : Nat) : Prop := B + 2 ≤ k ∧ ¬ T k
structure LevI (w : World) (bl B : Nat) (pre : List Ent) (T : Nat → Prop) (Wc : World) : Prop where
  own : ∃ v hs, Wc.cell? ⟨bl, 0, none⟩ = some v ∧ OwnH Wc (B + 2) v hs pre ∧ (∀ hd ∈ hs, HdZ (levU B T) hd) ∧ ∀ g, v.ownBlock = some g → levU B T g
  frz : Wc.frozen? ⟨bl, 0, none⟩ = false
  ext : Ext w Wc
  lo : w.heap.size ≤ bl
  hi : bl < B
  size : B ≤ Wc.heap.size
  t : ∀ k, T k → B ≤ k

theorem LevI.kept {w : World} {bl B : Nat} {pre : List Ent} {T T' : Nat → Prop} {Wc W' : World} (h : LevI w bl B pre T Wc) {X : Nat → Prop} (k : Kept X Wc W')
    (hx : ∀ k, levU B T k ∨ k < B → X k) (ht : ∀ k, T' k → T k ∨ Wc.heap.size ≤ k) : LevI w bl B pre T' W' := by
  obtain ⟨⟨v, hs, hc, ho, hz, hg⟩, hf, x, lo, hi, sz, t⟩ := h
  have up : ∀ k, k < Wc.heap.size → levU B T k → levU B T' k := fun k hk h => ⟨h.1, fun h' => (ht k h').elim h.2 (fun h' => by omega)⟩
  have hlt : ∀ hd ∈ hs, HdZ (levU B T') hd := by
    intro hd hm
    obtain ⟨i, i1, rfl⟩ := List.getElem_of_mem hm
    have e := ho.2.2 i i1 (by rw [← ho.1]; exact i1)
    have hh := e.1.hdr
    have z := hz _ hm
    have lt : ∀ {A : Option Addr} {n : Nat} {x : Bs}, Rd Wc A n x → 0 < n → ∀ a, A = some a → a.block < Wc.heap.size := by
      intro A n x hr hn a ha
      obtain ⟨b, o, e, hc⟩ := hr.2 hn
      rw [ha] at e
      cases e
      exact World.block_lt_of_cell? Wc _ (hc 0 (by rw [hr.1]; exact hn))
    exact ⟨fun hn a ha => up _ (lt hh.1 hn a ha) (z.1 hn a ha), fun hn a ha => up _ (lt hh.2 hn a ha) (z.2 hn a ha)⟩
  refine ⟨⟨v, hs, k.cell hc (hx _ (.inr hi)), ho.keptX k (fun g e => hx g (.inl (hg g e))) (fun hd hm => (hz hd hm).mono fun b hb => hx b (.inl hb)), hlt, fun g e => up g ?_ (hg g e)⟩, ?_, k.ext_of x (fun j hj => hx j (.inr (by omega))), lo, hi, Nat.le_trans sz k.size, ?_⟩
  · have := ho.ownL.lt g e; exact this.2
  · rw [k.frozen (Nat.lt_of_lt_of_le hi sz) (hx _ (.inr hi))]; exact hf
  · intro j hj
    rcases ht j hj with h | h
    · exact t j h
    · omega
theorem LevI.ab (w : World) (bl B : Nat) : AbI B (LevI w bl B) := by
  intro pre T T' Wc W' h hk hs hn
  have ht := h.t
  exact h.kept hk (fun k hk => by
    rcases hk with ⟨h1, h2⟩ | h1
    · exact ⟨h2, by omega, by omega⟩
    · exact ⟨fun h' => by have := ht k h'; omega, by omega, by omega⟩) hn

set_option maxRecDepth 100000 in
set_option maxHeartbeats 4000000 in
theorem level6_any (g h n : Nat) (L : List Nd) (w : World) (s : SkL w g h L) (hn : n < 8) (hlen : L.length ≤ 100000) :
    Calls Try.prog 52 #[.pointer (some ⟨g, 0, none⟩), .int .i64 n] w fun e w' => ∃ A' n' c', e = .returned (.tuple #[.slice A' n' c', .bool true]) ∧ n' ≤ c' ∧ RdL w' A' n' ((L.filter fun nd => decide (n < ht nd.x)).map Nd.x) ∧ Ext w w' := by
  have HS := Lib.hid s
  have HLEN := Lib.hid hlen
  clear s hlen
  have hnil := fun (w : World) (f : Fn) (x y : Array Value) => run_eql_func_nil w 35 f x y Try.underlying35
  refine (callsIn_wide (n := 3)).1 ?_
  refine callsIn_of_wp_marks Try.func52 rfl trivial ?_ rfl
  simp only [Try.ntmps52, List.size_toArray, List.length_cons, List.length_nil, Nat.reduceAdd, Nat.reduceSub, Array.replicate_succ, Array.replicate_zero, List.push_toArray, List.append_toArray, List.nil_append, List.cons_append]
  gi_wp2
  refine ⟨trivial, ?_⟩
  refine (callsIn_wide.2 (level_any g n w)).mono ?_
  rintro e w2 ⟨rfl, hw2⟩
  have z2 : w2.heap.size = w.heap.size + 2 := by rw [hw2]; simp
  have x2 : Ext w w2 := by rw [hw2]; exact Ext.alloc (Ext.alloc (Ext.rfl_ _) _) _
  have h0 := cnew w (.pointer (some ⟨g, 0, none⟩)) 28
  have h1 := cnew (w.alloc (.cells #[.pointer (some ⟨g, 0, none⟩)] 28)) (.int .i64 n) 3
  rw [World.size_alloc, ← hw2] at h1
  have h0' := (show Ext (w.alloc (.cells #[.pointer (some ⟨g, 0, none⟩)] 28)) w2 by rw [hw2]; exact Ext.alloc (Ext.rfl_ _) _).keeps _ _ _ h0.1
  have h1' := h1.1
  clear hw2 h0 h1
  gi_wp2
  obtain ⟨W3, hW3⟩ : ∃ W3, W3 = w2.alloc (.cells #[.slice none 0 0] 26) := ⟨_, rfl⟩
  have z3 : W3.heap.size = w.heap.size + 3 := by rw [hW3, World.size_alloc, z2]
  have x3 : Ext w2 W3 := by rw [hW3]; exact Ext.alloc (Ext.rfl_ _) _
  have q2 := cnew w2 (.slice none 0 0) 26
  rw [← hW3, z2] at q2
  rw [← hW3]
  have c0 := x3.keeps _ _ _ h0'
  have c1 := x3.keeps _ _ _ h1'
  have xw3 : Ext w W3 := x2.trans x3
  clear hW3 h0' h1' x2 x3
  refine range_lawT (gf := 51) (lb := #[.pointer (some ⟨w.heap.size, 0, none⟩), .pointer (some ⟨w.heap.size + 1, 0, none⟩)]) rfl (enters_of Try.func51 (by kernel_rfl) rfl)
    (levelH_seq (w.heap.size) (w.heap.size + 1) n hn g h L (fun k => k = w.heap.size + 2) w W3 HS.out xw3 ?_ c0 c1) ?_ ?_ ?_
    (LevI w (w.heap.size + 2) W3.heap.size) (fun _ _ _ _ => False) ?_ ?_ ?_ ?_ ?_ ?_
  · rintro k rfl; omega
  · exact Ext.rfl_ _
  · rintro x vs T W ⟨_, v, rfl, _⟩; rfl
  · rintro k rfl; omega
  · exact LevI.ab _ _ _
  · intro _ _ _ _ _ _ h; exact h.elim
  · exact ⟨⟨_, [], q2.1, OwnH.nil _ _, fun hd h => by simp at h, fun g e => by simp [Value.ownBlock] at e⟩, q2.2, xw3, by omega, by omega, Nat.le_refl _, fun _ h => h.elim⟩
  · rintro l2 m pre x vs T Wc rfl hI hpre ⟨hT0, v, rfl, hfr⟩ hT hz hlo
    have hrd := hfr.rd
    have HE := Lib.hid hrd
    obtain ⟨B, nb, cb, B', nb', cb', rfl, o1, o2, _, _, _, _, _, _, i1, i2⟩ := hfr
    simp only [List.zip_toArray, List.zip_cons_cons, List.zip_nil_right, List.foldl_toArray', List.foldl_cons, List.foldl_nil]
    have hI0 := Lib.hid hI
    have HPRE := Lib.hid hpre
    have HO1 := Lib.hid o1
    have HO2 := Lib.hid o2
    clear hI hpre c0 c1 xw3 q2 hrd o1 o2
    gi_wp2
    have xb : Ext Wc (Wc.alloc (.cells #[.slice B nb cb, .int .i64 x.seq, .int .i64 x.kind, .slice B' nb' cb'] 40)) := (by with_reducible (repeat (first | exact Ext.rfl_ _ | assumption | refine Ext.drew ?_ | refine Ext.drewN ?_ _ | refine Ext.alloc ?_ _ | refine Ext.trans ?_ (by assumption))))
    refine ⟨xb, fun W2 kp2 => ?_⟩
    have hbx := kp2.block Wc.heap.size (by simp) (by omega)
    rw [blk1] at hbx
    have hI2 := (hI0.out.kept (T' := T) (Kept.of_ext (X := fun _ => True) xb) (fun _ _ => trivial) (fun _ h => .inl h)).kept (T' := T) kp2 (fun k hk => by
      rcases hk with ⟨h, _⟩ | h <;> omega) (fun _ h => .inl h)
    have hlo2 : ∃ r, (Wc.alloc (.cells #[.slice B nb cb, .int .i64 x.seq, .int .i64 x.kind, .slice B' nb' cb'] 40)).heap[W3.heap.size + 1]? = some (.loop r) := hlo.imp fun r h => ((Ext.below xb).block _ (Array.getElem?_eq_some_iff.1 h).1).trans h
    have hE2 := (HE.out.ext xb).kept kp2 hlo2
    have o1 := (HO1.out.ext xb).keptX kp2 (fun q e => by have := HO1.out.out.lt q e; omega)
    have o2 := (HO2.out.ext xb).keptX kp2 (fun q e => by have := HO2.out.out.lt q e; omega)
    have helt : Elt W2 (W3.heap.size + 2) ⟨B, nb, cb, B', nb', cb'⟩ x := ⟨hE2, Apt.own o1, Apt.own o2⟩
    have hz2 : Wc.heap.size ≤ W2.heap.size := Nat.le_trans (Ext.size xb) kp2.size
    obtain ⟨r0, r1, r2, r3, _, _, _, _⟩ := box4 hbx (Ext.rfl_ W2)
    obtain ⟨⟨v, hs, hc, hown, hzz, hgg⟩, hf, i3, i4, i5, i6, i7⟩ := id hI2
    have hpl : pre.length + 1 ≤ 100000 := by
      have h1 := HPRE.out.length_le
      have h2 := List.length_filter_le (fun nd : Nd => decide (n < ht nd.x)) L
      have := HLEN.out
      simp at h1
      omega
    have HOWN := Lib.hid (hown.ext (Ext.alloc (Ext.rfl_ _) (.cells #[.slice B nb cb, .int .i64 x.seq, .int .i64 x.kind, .slice B' nb' cb'] 40)))
    have HELT := Lib.hid (RdH.one 40 helt)
    have HPL := Lib.hid (show pre.length + [x].length ≤ B41 from Nat.le_trans hpl (by decide))
    have HBS := Lib.hid (show W3.heap.size + 2 ≤ (W2.alloc (.cells #[.slice B nb cb, .int .i64 x.seq, .int .i64 x.kind, .slice B' nb' cb'] 40)).heap.size by simp; omega)
    have HPL2 := Lib.hid (show (pre ++ [x]).length ≤ B41 from Nat.le_trans (show (pre ++ [x]).length ≤ 100000 by simp; omega) (by decide))
    have HKG := Lib.hid (fun w' (hg' : World.grownBy (W2.alloc (.cells #[.slice B nb cb, .int .i64 x.seq, .int .i64 x.kind, .slice B' nb' cb'] 40)) w' v.ownBlock) => Kept.grown (X := fun k => v.ownBlock ≠ some k) hg' (fun q e h => h e))
    have HCB := Lib.hid ((Ext.alloc (Ext.rfl_ W2) (.cells #[.slice B nb cb, .int .i64 x.seq, .int .i64 x.kind, .slice B' nb' cb'] 40)).keeps _ _ _ hc)
    have HFB : Hid ((W2.alloc (.cells #[.slice B nb cb, .int .i64 x.seq, .int .i64 x.kind, .slice B' nb' cb'] 40)).frozen? ⟨w.heap.size + 2, 0, none⟩ = false) := Lib.hid (by rw [(bcell (Ext.alloc (Ext.rfl_ W2) _)).2 _ _ (by omega)]; exact hf)
    have HNB := Lib.hid (show v.ownBlock ≠ some (w.heap.size + 2) from fun e => by have := (hgg _ e).1; omega)
    have HLB := Lib.hid (show w.heap.size + 2 < (W2.alloc (.cells #[.slice B nb cb, .int .i64 x.seq, .int .i64 x.kind, .slice B' nb' cb'] 40)).heap.size by simp; omega)
    have HGG := Lib.hid hgg
    have HZZ := Lib.hid hzz
    clear hE2 kp2 xb hlo hlo2 HE o1 o2 hown helt hpl hgg hzz
    gi_wp2_with (refine wpi_appH rfl _ _ rfl (W3.heap.size + 2) v hs pre rfl HOWN.out (some ⟨W2.heap.size, 0, none⟩) 1 1 [⟨B, nb, cb, B', nb', cb'⟩] [x] rfl HELT.out HPL.out HBS.out ?_; intro v' w' ho' hg' hnn; obtain ⟨A7, c7, rfl, _⟩ := ho'.ownL.form HPL2.out; have kg := HKG.out w' hg'; have hcw := kg.cell HCB.out HNB.out; have hfw := (kg.frozen HLB.out HNB.out).trans HFB.out; clear hnn)
    rw [← z3]
    have hl1 : (pre ++ [x]).length = pre.length + 1 := by simp
    rw [hl1] at ho'
    have ks : Kept (fun k => k ≠ w.heap.size + 2) w' (w'.setCell ⟨w.heap.size + 2, 0, none⟩ (.slice A7 (pre.length + 1) c7)) := (Kept.rfl_ _ _).setCell (by simp) _
    have hdz : ∀ hd ∈ hs ++ [(⟨B, nb, cb, B', nb', cb'⟩ : Hdr)], HdZ (levU W3.heap.size T) hd := by
      intro hd hm
      rcases List.mem_append.1 hm with h | h
      · exact HZZ.out hd h
      · obtain rfl : hd = ⟨B, nb, cb, B', nb', cb'⟩ := by simpa using h
        exact ⟨fun hn a ha => ⟨i1 hn a ha, hT0 _⟩, fun hn a ha => ⟨i2 hn a ha, hT0 _⟩⟩
    have hob : ∀ q, (Value.slice A7 (pre.length + 1) c7).ownBlock = some q → levU W3.heap.size T q := fun q e => ⟨(ho'.ownL.lt q e).1, hT0 q⟩
    refine ⟨⟨⟨_, _, World.cell?_setCell_same' _ _ _ (by rw [hcw]; rfl), ho'.keptX ks (fun q e => by have := (hob q e).1; omega) (fun hd hm => (hdz hd hm).mono fun b hb => by have := hb.1; omega), hdz, hob⟩, ?_, ?_, i4, i5, ?_, i7⟩, ?_⟩
    · rw [World.frozen?_setCell]; exact hfw
    · exact ks.ext_of (kg.ext_of (i3.trans (Ext.alloc (Ext.rfl_ _) _)) (fun j hj e => by have := (HGG.out j e).1; omega)) (fun j hj => by omega)
    · have h1 := kg.size
      have h2 := ks.size
      have h3 := HBS.out
      omega
    · refine ((Kept.of_ext (Ext.alloc (Ext.rfl_ _) _)).trans (kg.mono fun k hk e => ?_)).trans (ks.mono fun k hk => ?_)
      · rcases hk with h | h
        · exact hT0 k h
        · have := (HGG.out k e).1; omega
      · rcases hk with h | h
        · exact absurd h (hT0 k)
        · exact h.2
  · intro T Wd hI hD
    obtain ⟨⟨v, hs, hc, hown, hzz, hgg⟩, hf, i3, i4, i5, i6, i7⟩ := hI
    obtain ⟨A7, c7, rfl, hle, hrl, _⟩ := hown.ownL.form (by
      have h2 := List.length_filter_le (fun nd : Nd => decide (n < ht nd.x)) L
      have := HLEN.out
      rw [List.length_map]
      exact Nat.le_trans (show _ ≤ 100000 by omega) (by decide))
    have HRL := Lib.hid hrl
    have HI3 := Lib.hid i3
    clear hrl i3 hown hzz
    gi_wp2
    refine ⟨by simp, .inl ⟨_, _, rfl, run_takeDeferred hD, ?_⟩⟩
    have k2 := Kept.putObj (fun k => k ≠ W3.heap.size) Wd W3.heap.size (.deferred none) (by simp)
    have hrl2 : RdL (Wd.putObj W3.heap.size (.deferred none)) A7 _ _ := HRL.out.keep (fun p v hp => k2.cell hp (fun e => by
      unfold World.cell? at hp
      rw [e, hD] at hp
      cases hp))
    have hx2 : Ext w (Wd.putObj W3.heap.size (.deferred none)) := k2.ext_of HI3.out (fun k hk => by omega)
    refine ⟨.tuple #[.slice A7 (L.filter fun nd => decide (n < ht nd.x)).length c7, .bool true], ?_, ?_⟩
    · simp [results, Try.f52, go_sem]
    · rw [List.length_map] at hrl2 hle
      exact ⟨A7, _, c7, rfl, hle, hrl2, hx2⟩
  · rintro code pre T Wd hp h
    exact h.elim
end

section
open Go.RowKit Go.Shelf

theorem lvl_sub (L : List Nd) (n : Nat) : ((L.filter fun nd => decide (n + 1 < ht nd.x)).map Nd.x).Sublist ((L.filter fun nd => decide (n < ht nd.x)).map Nd.x) := by
  refine List.Sublist.map _ ?_
  have : (L.filter fun nd => decide (n + 1 < ht nd.x)) = (L.filter fun nd => decide (n < ht nd.x)).filter fun nd => decide (n + 1 < ht nd.x) := by
    rw [List.filter_filter]
    refine List.filter_congr fun nd _ => ?_
    by_cases h : n + 1 < ht nd.x
    · simp [h]; omega
    · simp [h]
  rw [this]
  exact List.filter_sublist

set_option maxRecDepth 100000 in
set_option maxHeartbeats 4000000 in
theorem levels_any (g h : Nat) (L : List Nd) (w : World) (s : SkL w g h L) (hlen : L.length ≤ 100000) :
    Calls Try.prog 27 #[.pointer (some ⟨g, 0, none⟩)] w fun e w' => e = .returned (.bool true) ∧ Ext w w' := by
  have HS := Lib.hid s
  have HLEN := Lib.hid hlen
  clear s hlen
  go_enter Try.func27, Try.ntmps27
  go_wp2
  go_loopw [3, 4] (fun u v wr => ∃ n A' n' c', v = .int .i64 (n : Nat) ∧ n ≤ 8 ∧ u = .slice A' n' c' ∧ n' ≤ c' ∧ Hid (∀ j, n = j + 1 → RdL wr A' n' ((L.filter fun nd => decide (j < ht nd.x)).map Nd.x)) ∧ Hid (Ext w wr)) (fun _ v _ => 8 - (intOf v).toNat)
  case atStart => exact ⟨0, none, 0, 0, rfl, by omega, rfl, Nat.le_refl _, Lib.hid (fun j e => by omega), Lib.hid (by with_reducible (repeat (first | exact Ext.rfl_ _ | assumption | refine Ext.drew ?_ | refine Ext.drewN ?_ _ | refine Ext.alloc ?_ _ | refine Ext.trans ?_ (by assumption))))⟩
  case round =>
    obtain ⟨n, A', n', c', rfl, hn, rfl, hnc, hb, hE⟩ := hrel
    by_cases h8 : n < 8
    · have h8I : (n : Int) < 8 := by omega
      go_wp2_with fail
      refine (level6_any g h n L _ (HS.out.ext (hE.out.trans (by with_reducible (repeat (first | exact Ext.rfl_ _ | assumption | refine Ext.drew ?_ | refine Ext.drewN ?_ _ | refine Ext.alloc ?_ _ | refine Ext.trans ?_ (by assumption)))))) h8 HLEN.out).mono ?_
      rintro e w2 ⟨A2, n2, c2, rfl, hnc2, hr2, hw2⟩
      have X2 := Lib.hid (show Ext wr w2 from (by with_reducible (repeat (first | exact Ext.rfl_ _ | assumption | refine Ext.drew ?_ | refine Ext.drewN ?_ _ | refine Ext.alloc ?_ _ | refine Ext.trans ?_ (by assumption)))))
      have HR2 := Lib.hid hr2
      clear hr2 hw2
      by_cases h0 : n = 0
      · subst h0
        have HJ2 : Hid (∀ j, 1 = j + 1 → RdL w2 A2 n2 ((L.filter fun nd => decide (j < ht nd.x)).map Nd.x)) := Lib.hid (by
          intro j e
          obtain rfl : j = 0 := by omega
          exact HR2.out)
        go_wp2
        go_roundw
        case rel => exact ⟨1, A2, n2, c2, by go_num, by omega, rfl, hnc2, HJ2, Lib.hid (hE.out.trans X2.out)⟩
        case measure => simp [intOf]
      · obtain ⟨j, rfl⟩ : ∃ j, n = j + 1 := ⟨n - 1, by omega⟩
        have hjI : (0 : Int) < ((j + 1 : Nat) : Int) := by omega
        go_wp2_with fail
        refine (within_any A2 n2 c2 A' n' c' _ _ _ HR2.out hnc2 ((hb.out j rfl).ext X2.out) hnc (lvl_sub L j)).mono ?_
        rintro e w3 ⟨rfl, hw3⟩
        have X3 := Lib.hid hw3
        clear hw3
        have HJ3 : Hid (∀ q, j + 1 + 1 = q + 1 → RdL w3 A2 n2 ((L.filter fun nd => decide (q < ht nd.x)).map Nd.x)) := Lib.hid (by
          intro q e
          obtain rfl : q = j + 1 := by omega
          exact HR2.out.ext X3.out)
        go_wp2
        go_roundw
        case rel => exact ⟨j + 1 + 1, A2, n2, c2, by go_num, by omega, rfl, hnc2, HJ3, Lib.hid (hE.out.trans (X2.out.trans X3.out))⟩
        case measure => simp [intOf]; omega
    · have h8I : ¬ (n : Int) < 8 := by omega
      clear h8
      go_wp2
      go_ret
      exact ⟨rfl, hE.out.trans (by with_reducible (repeat (first | exact Ext.rfl_ _ | assumption | refine Ext.drew ?_ | refine Ext.drewN ?_ _ | refine Ext.alloc ?_ _ | refine Ext.trans ?_ (by assumption))))⟩

/-- What fill leaves. -/
theorem FilI.facts {w w' : World} {xs : List Ent} {g h n : Nat} {L : List Nd} {A' : Option Addr} {n' c' : Nat} (hl : xs.length = n) (F : FilI w xs g h n L A' n' c' w') : putAll xs = L.map Nd.x ∧ n' = L.length ∧ RdL w' A' n' (L.map Nd.x) ∧ (∀ x ∈ L.map Nd.x, mayE x = true) ∧ n' ≤ n := by
  have e : xs.take n = xs := by rw [← hl, List.take_length]
  have h1 := F.e
  rw [e] at h1
  have h2 := F.r.rdl
  rw [e, ← h1] at h2
  have h3 := h2.1
  rw [List.length_map] at h3
  refine ⟨h1.symm, h3.symm, h2, fun x hx => ?_, by have := F.len; omega⟩
  obtain ⟨nd, hm, rfl⟩ := List.mem_map.1 hx
  exact F.s.may nd hm


set_option maxRecDepth 100000 in
set_option maxHeartbeats 8000000 in
theorem order_walk (A : Option Addr) (n c : Nat) (z : Int) (xs : List Ent) (w : World) (hl : RdL w A n xs) (hnc : n ≤ c) :
    Calls Try.prog 7 #[.slice A n c, .int .i64 z] w fun e w' => e = .returned (.bool true) ∧ Ext w w' := by
  have HL := Lib.hid hl
  have hxl := hl.1
  have hn41 := hl.2.1
  unfold B41 at hn41
  clear hl
  by_cases hf : (decide (n ≤ 200) && !decide (200000 < wt xs)) = true
  · have HFW := Lib.hid hf
    clear hf
    by_cases h100 : n ≤ 100
    · have h100I : ¬ (100 : Int) < (n : Int) := by omega
      by_cases h0 : n = 0
      · subst h0
        go_enter Try.func7, Try.ntmps7
        go_wp2_with fail
        refine (known_any _).mono ?_
        rintro e w1 ⟨rfl, hw1⟩
        go_wp2_with fail
        refine (few_any A 0 c xs _ (HL.out.ext (by with_reducible (repeat (first | exact Ext.rfl_ _ | assumption | refine Ext.drew ?_ | refine Ext.drewN ?_ _ | refine Ext.alloc ?_ _ | refine Ext.trans ?_ (by assumption)))))).mono ?_
        rintro e w2 ⟨rfl, hw2⟩
        rw [HFW.out]
        go_wp2
        go_ret
        exact ⟨rfl, (by with_reducible (repeat (first | exact Ext.rfl_ _ | assumption | refine Ext.drew ?_ | refine Ext.drewN ?_ _ | refine Ext.alloc ?_ _ | refine Ext.trans ?_ (by assumption))))⟩
      · have h0I : ((n : Int) == 0) = false := by simp; omega
        by_cases hz : z < 0
        · go_enter Try.func7, Try.ntmps7
          go_wp2_with fail
          refine (known_any _).mono ?_
          rintro e w1 ⟨rfl, hw1⟩
          go_wp2_with fail
          refine (few_any A n c xs _ (HL.out.ext (by with_reducible (repeat (first | exact Ext.rfl_ _ | assumption | refine Ext.drew ?_ | refine Ext.drewN ?_ _ | refine Ext.alloc ?_ _ | refine Ext.trans ?_ (by assumption)))))).mono ?_
          rintro e w2 ⟨rfl, hw2⟩
          rw [HFW.out]
          go_wp2
          go_ret
          exact ⟨rfl, (by with_reducible (repeat (first | exact Ext.rfl_ _ | assumption | refine Ext.drew ?_ | refine Ext.drewN ?_ _ | refine Ext.alloc ?_ _ | refine Ext.trans ?_ (by assumption))))⟩
        · obtain ⟨q, rfl⟩ : ∃ q : Nat, z = q := ⟨z.toNat, by omega⟩
          have hnI : (0 : Int) < (n : Int) := by omega
          go_enter Try.func7, Try.ntmps7
          go_wp2_with fail
          refine (known_any _).mono ?_
          rintro e w1 ⟨rfl, hw1⟩
          go_wp2_with fail
          refine (few_any A n c xs _ (HL.out.ext (by with_reducible (repeat (first | exact Ext.rfl_ _ | assumption | refine Ext.drew ?_ | refine Ext.drewN ?_ _ | refine Ext.alloc ?_ _ | refine Ext.trans ?_ (by assumption)))))).mono ?_
          rintro e w2 ⟨rfl, hw2⟩
          rw [HFW.out]
          have X2 := Lib.hid (show Ext w w2 from (by with_reducible (repeat (first | exact Ext.rfl_ _ | assumption | refine Ext.drew ?_ | refine Ext.drewN ?_ _ | refine Ext.alloc ?_ _ | refine Ext.trans ?_ (by assumption)))))
          clear hw1 hw2
          obtain ⟨t, ht⟩ : ∃ t : Nat, t = q % n := ⟨_, rfl⟩
          have htn : t < n := by rw [ht]; exact Nat.mod_lt _ (by omega)
          have hqn : (q : Int) % (n : Int) = (t : Int) := by rw [ht]; omega
          clear ht
          go_wp2
          rw [hqn]
          clear hqn
          go_loopw [5, 6] (fun u v wr => ∃ k : Nat, v = .int .i64 k ∧ k ≤ n ∧ Hid (OwnL wr w.heap.size u (turnd xs t k)) ∧ Hid (Ext w wr)) (fun _ v _ => n - (intOf v).toNat)
          case atStart => exact ⟨0, rfl, Nat.zero_le _, Lib.hid (OwnL.nil _ _), X2⟩
          case round =>
            obtain ⟨k, rfl, hk, HO, hE⟩ := hrel
            by_cases hlt : k < n
            · have hltI : (k : Int) < (n : Int) := by omega
              have hncI : (n : Int) ≤ (c : Int) := by omega
              have hw1 : IntKind.i64.wrap ((t : Int) + (n : Int)) = (t : Int) + n := by rw [IntKind.wrap_i64]; omega
              have hw2 : IntKind.i64.wrap ((t : Int) + (n : Int) - (k : Int)) = (t : Int) + n - k := by rw [IntKind.wrap_i64]; omega
              obtain ⟨b, o, rfl, _⟩ := HL.out.2.2 (by omega)
              obtain ⟨m, hm⟩ : ∃ m : Nat, m = (t + n - k) % n := ⟨_, rfl⟩
              have hmn : m < n := by rw [hm]; exact Nat.mod_lt _ (by omega)
              have hmi : ((t : Int) + (n : Int) - (k : Int)) % (n : Int) = (m : Int) := by rw [show (t : Int) + (n : Int) - (k : Int) = ((t + n - k : Nat) : Int) by omega, hm]; first | exact (Int.natCast_emod _ _).symm | rfl | omega
              have hmI : (m : Int) < (n : Int) := by omega
              have hmc : (m : Int) ≤ (c : Int) := by omega
              obtain ⟨A1, n1, c1, A2, n2, c2, hx, e0, e1, e2, e3, hry⟩ := r6at HL.out hmn hE.out
              have hts := turnd_succ xs t k (by rw [hxl, ← hm]; omega)
              have hry' : RdE w (.agg (cellsE ⟨A1, n1, c1, A2, n2, c2⟩ xs[m]).toArray) xs[m] := hry
              have HEL : Hid (Elt w w.heap.size ⟨A1, n1, c1, A2, n2, c2⟩ xs[m]) := Lib.hid ⟨hry', Apt.low _ hry'.hdr.1 (Nat.le_refl _), Apt.low _ hry'.hdr.2 (Nat.le_refl _)⟩
              obtain ⟨x, hxx⟩ : ∃ x, x = xs[m] := ⟨_, rfl⟩
              have hts' : turnd xs t (k + 1) = turnd xs t k ++ [x] := by rw [hts, hxx]; simp only [hxl, hm]
              rw [← hxx] at e1 e2 HEL
              have HTS := Lib.hid hts'
              have HLN := Lib.hid (show (turnd xs t k).length ≤ 1000 by simp [turnd]; omega)
              clear hry hry' hts hts' hm hxx
              go_wp2_with (at_builtin; refine wp_appL rfl _ _ rfl w.heap.size _ _ rfl (OwnL.ext HO.out (by with_reducible (repeat (first | exact Ext.rfl_ _ | assumption | refine Ext.drew ?_ | refine Ext.drewN ?_ _ | refine Ext.alloc ?_ _ | refine Ext.trans ?_ (by assumption))))) (some ⟨_, 0, none⟩) 1 1 [x] rfl (RdLa.one (h := ⟨A1, n1, c1, A2, n2, c2⟩) (x := x) _ (Elt.ext HEL.out (hE.out.trans (by with_reducible (repeat (first | exact Ext.rfl_ _ | assumption | refine Ext.drew ?_ | refine Ext.drewN ?_ _ | refine Ext.alloc ?_ _ | refine Ext.trans ?_ (by assumption))))))) (by have := HLN.out; unfold B41; simp only [List.length_cons, List.length_nil]; omega) (Ext.size (hE.out.trans (by with_reducible (repeat (first | exact Ext.rfl_ _ | assumption | refine Ext.drew ?_ | refine Ext.drewN ?_ _ | refine Ext.alloc ?_ _ | refine Ext.trans ?_ (by assumption)))))) ?_; intro v5 w5 o5 g5 _; have x5 : Ext w w5 := Ext.growL (show Ext w _ from hE.out.trans (by with_reducible (repeat (first | exact Ext.rfl_ _ | assumption | refine Ext.drew ?_ | refine Ext.drewN ?_ _ | refine Ext.alloc ?_ _ | refine Ext.trans ?_ (by assumption))))) g5 (OwnL.ext HO.out (by with_reducible (repeat (first | exact Ext.rfl_ _ | assumption | refine Ext.drew ?_ | refine Ext.drewN ?_ _ | refine Ext.alloc ?_ _ | refine Ext.trans ?_ (by assumption))))) (Nat.le_refl _); clear g5)
              go_roundw
              case rel =>
                refine ⟨k + 1, by go_num, by omega, ?_, Lib.hid x5⟩
                rw [HTS.out]
                exact Lib.hid o5
              case measure => simp [intOf]; omega
            · have hkn : k = n := by omega
              subst hkn
              have hltI : ¬ (k : Int) < (k : Int) := by omega
              clear hlt
              obtain ⟨A2, n2, c2, rfl, hnc2, hr2, _⟩ := HO.out.formN (Nat.le_trans (show (turnd xs t k).length ≤ 1000 by simp [turnd]; omega) (by decide))
              have hl2 : n2 = k := by have := hr2.1; simp [turnd] at this; omega
              subst hl2
              have HR2 := Lib.hid hr2
              have htl : (turnd xs t n2).length = n2 := by simp [turnd]
              clear hr2
              go_wp2_with fail
              refine (fill_any A n2 c xs _ (HL.out.ext (hE.out.trans (by with_reducible (repeat (first | exact Ext.rfl_ _ | assumption | refine Ext.drew ?_ | refine Ext.drewN ?_ _ | refine Ext.alloc ?_ _ | refine Ext.trans ?_ (by assumption)))))) hnc (by omega)).mono ?_
              rintro e w4 ⟨g, h, L, A', n', c', rfl, hF⟩
              obtain ⟨f1, rfl, f3, f4, f5⟩ := hF.facts hxl
              have HF := Lib.hid hF
              have HR := Lib.hid f3
              have HF1 := Lib.hid f1
              have hnc3 := hF.nc
              have X34 := Lib.hid hF.ext
              clear hF f1 f3 f4
              go_wp2_with fail
              refine (fill_any A2 n2 c2 (turnd xs t n2) _ (HR2.out.ext X34.out) hnc2 (by omega)).mono ?_
              rintro e w5 ⟨g2, h2, L2, A3, n3, c3, rfl, hF2⟩
              obtain ⟨f1, rfl, f3, f4, f6⟩ := hF2.facts htl
              have HF2 := Lib.hid hF2
              have hnc4 := hF2.nc
              have X45 := Lib.hid hF2.ext
              have hup := up_same (xs := L.map Nd.x) (ys := L2.map Nd.x) HF.out.s.up hF2.s.up (fun x => by
                rw [← HF1.out, ← f1]
                have := has_turn xs t (by omega) x
                rw [hxl] at this
                exact this.symm)
              have hll : L2.length = L.length := by have := hup.1; simp at this; omega
              have HUP := Lib.hid hup.2
              rw [hll] at f3 hnc4 ⊢
              have HR3 := Lib.hid f3
              have hne : ((L.length : Int) == (L.length : Int)) = true := by simp
              have HS2 := Lib.hid (HF.out.s.ext X45.out)
              have HLE : Hid (L.length ≤ 100) := Lib.hid (by omega)
              have XW5 := Lib.hid (hE.out.trans (Ext.trans (show Ext wr w4 from X34.out) X45.out))
              clear hF2 f1 f3 f4 hup
              go_wp2_with fail
              refine (len_any g h L w5 HS2.out).mono ?_
              rintro e w' ⟨rfl, hw'⟩
              rw [hw']
              clear hw'
              go_wp2_with fail
              refine (len_any g2 h2 L2 w5 HF2.out.s).mono ?_
              rintro e w' ⟨rfl, hw'⟩
              rw [hw', hll]
              clear hw'
              go_wp2_with fail
              refine (levels_any g h L w5 HS2.out (by have := HLE.out; omega)).mono ?_
              rintro e w6 ⟨rfl, hw6⟩
              have X56 := Lib.hid hw6
              clear hw6
              go_wp2
              obtain ⟨w6', hw6'⟩ : ∃ w6' : World, w6' = w6 := ⟨_, rfl⟩
              subst hw6'
              clear hE HO hltI hk
              go_loopw [13] (fun u wr => ∃ j : Nat, u = .int .i64 j ∧ j ≤ L.length ∧ Hid (Ext w6' wr)) (fun u _ => L.length - (intOf u).toNat)
              case atStart => exact ⟨0, rfl, Nat.zero_le _, Lib.hid (Ext.rfl_ _)⟩
              case round =>
                obtain ⟨j, rfl, hj, hE6⟩ := hrel
                by_cases hlt : j < L.length
                · have hltI : (j : Int) < (L.length : Int) := by omega
                  have hltc : (L.length : Int) ≤ (c' : Int) := by omega
                  have hltd : (L.length : Int) ≤ (c3 : Int) := by omega
                  obtain ⟨b, o, rfl, _⟩ := HR.out.2.2 (by omega)
                  obtain ⟨b2, o2, rfl, _⟩ := HR3.out.2.2 (by omega)
                  have X5r := Lib.hid (X56.out.trans hE6.out)
                  obtain ⟨B1, m1, d1, B2, m2, d2, hx1, e0, e1, e2, e3, hrx⟩ := r6at HR.out hlt (X45.out.trans X5r.out)
                  obtain ⟨B3, m3, d3, B4, m4, d4, hx2, f0, f1, f2, f3, hry⟩ := r6at HR3.out hlt X5r.out
                  have HRX := Lib.hid (hrx.ext (X45.out.trans X5r.out))
                  have HRY := Lib.hid (hry.ext X5r.out)
                  have hcmp := HUP.out j hx1 hx2
                  obtain ⟨x, hxx⟩ : ∃ x, x = (L.map Nd.x)[j] := ⟨_, rfl⟩
                  obtain ⟨y, hyy⟩ : ∃ y, y = (L2.map Nd.x)[j] := ⟨_, rfl⟩
                  rw [← hxx] at e1 e2 HRX hcmp
                  rw [← hyy] at f1 f2 HRY hcmp
                  have HCMP := Lib.hid hcmp
                  have HKE := Lib.hid (And.intro (And.intro e0 (And.intro e1 (And.intro e2 e3))) (And.intro f0 (And.intro f1 (And.intro f2 f3))))
                  clear hrx hry hcmp hxx hyy
                  go_wp2
                  refine wp_region_held_drew (S := (fun w' => (w'.cell? ⟨b, o + j * 4, none⟩ = some (.slice B1 m1 d1) ∧ w'.cell? ⟨b, o + j * 4 + 1, none⟩ = some (.int .i64 x.seq) ∧ w'.cell? ⟨b, o + j * 4 + 2, none⟩ = some (.int .i64 x.kind) ∧ w'.cell? ⟨b, o + j * 4 + 3, none⟩ = some (.slice B2 m2 d2)) ∧ (w'.cell? ⟨b2, o2 + j * 4, none⟩ = some (.slice B3 m3 d3) ∧ w'.cell? ⟨b2, o2 + j * 4 + 1, none⟩ = some (.int .i64 y.seq) ∧ w'.cell? ⟨b2, o2 + j * 4 + 2, none⟩ = some (.int .i64 y.kind) ∧ w'.cell? ⟨b2, o2 + j * 4 + 3, none⟩ = some (.slice B4 m4 d4)))) (by kernel_rfl) (by (try dsimp only); exact ⟨⟨Ext.keeps (show Ext wr _ from (by with_reducible (repeat (first | exact Ext.rfl_ _ | assumption | refine Ext.drew ?_ | refine Ext.drewN ?_ _ | refine Ext.alloc ?_ _ | refine Ext.trans ?_ (by assumption))))) _ _ _ HKE.out.1.1, Ext.keeps (show Ext wr _ from (by with_reducible (repeat (first | exact Ext.rfl_ _ | assumption | refine Ext.drew ?_ | refine Ext.drewN ?_ _ | refine Ext.alloc ?_ _ | refine Ext.trans ?_ (by assumption))))) _ _ _ HKE.out.1.2.1, Ext.keeps (show Ext wr _ from (by with_reducible (repeat (first | exact Ext.rfl_ _ | assumption | refine Ext.drew ?_ | refine Ext.drewN ?_ _ | refine Ext.alloc ?_ _ | refine Ext.trans ?_ (by assumption))))) _ _ _ HKE.out.1.2.2.1, Ext.keeps (show Ext wr _ from (by with_reducible (repeat (first | exact Ext.rfl_ _ | assumption | refine Ext.drew ?_ | refine Ext.drewN ?_ _ | refine Ext.alloc ?_ _ | refine Ext.trans ?_ (by assumption))))) _ _ _ HKE.out.1.2.2.2⟩, Ext.keeps (show Ext wr _ from (by with_reducible (repeat (first | exact Ext.rfl_ _ | assumption | refine Ext.drew ?_ | refine Ext.drewN ?_ _ | refine Ext.alloc ?_ _ | refine Ext.trans ?_ (by assumption))))) _ _ _ HKE.out.2.1, Ext.keeps (show Ext wr _ from (by with_reducible (repeat (first | exact Ext.rfl_ _ | assumption | refine Ext.drew ?_ | refine Ext.drewN ?_ _ | refine Ext.alloc ?_ _ | refine Ext.trans ?_ (by assumption))))) _ _ _ HKE.out.2.2.1, Ext.keeps (show Ext wr _ from (by with_reducible (repeat (first | exact Ext.rfl_ _ | assumption | refine Ext.drew ?_ | refine Ext.drewN ?_ _ | refine Ext.alloc ?_ _ | refine Ext.trans ?_ (by assumption))))) _ _ _ HKE.out.2.2.2.1, Ext.keeps (show Ext wr _ from (by with_reducible (repeat (first | exact Ext.rfl_ _ | assumption | refine Ext.drew ?_ | refine Ext.drewN ?_ _ | refine Ext.alloc ?_ _ | refine Ext.trans ?_ (by assumption))))) _ _ _ HKE.out.2.2.2.2⟩) (fun hHeld => ?_)
                  refine wpAnyH_take (i := 0) (oi := ({ dst := some 101, op := Go.Op.move (Go.Operand.tmp 8), type := 26, pos := "law.go:174", after := #[], guard := none } : Go.Oper)) (v := ?v16) rfl (by kernel_rfl) (by kernel_rfl) (by kernel_rfl) (fun _ _ _ h => h) (Or.inl ⟨by rfl, ?hy16⟩) (by assumption) ?rest16
                  case hy16 => (intro w hSw; (try dsimp only at hSw); go_simp; (try with_reducible rfl))
                  (try simp only [Act.put, List.getElem_toArray, List.getElem_cons_zero, List.getElem_cons_succ, List.setIfInBounds_toArray, List.set_cons_zero, List.set_cons_succ])
                  refine wpAnyH_take (i := 1) (oi := ({ dst := some 102, op := Go.Op.move (Go.Operand.tmp 13), type := 3, pos := "law.go:174", after := #[], guard := none } : Go.Oper)) (v := ?v17) rfl (by kernel_rfl) (by kernel_rfl) (by kernel_rfl) (fun _ _ _ h => h) (Or.inl ⟨by rfl, ?hy17⟩) (by assumption) ?rest17
                  case hy17 => (intro w hSw; (try dsimp only at hSw); go_simp; (try with_reducible rfl))
                  (try simp only [Act.put, List.getElem_toArray, List.getElem_cons_zero, List.getElem_cons_succ, List.setIfInBounds_toArray, List.set_cons_zero, List.set_cons_succ])
                  refine wpAnyH_take (i := 2) (oi := ({ dst := some 103, op := Go.Op.indexAddr 26 (Go.Operand.tmp 101) (Go.Operand.tmp 102), type := 0, pos := "law.go:174", after := #[{ on := 0, ground := Go.Ground.data }, { on := 1, ground := Go.Ground.data }], guard := none } : Go.Oper)) (v := ?v18) rfl (by kernel_rfl) (by kernel_rfl) (by kernel_rfl) (fun _ _ _ h => h) (Or.inl ⟨by rfl, ?hy18⟩) (by assumption) ?rest18
                  case hy18 => (intro w hSw; (try dsimp only at hSw); go_simp; (try with_reducible rfl))
                  (try simp only [Act.put, List.getElem_toArray, List.getElem_cons_zero, List.getElem_cons_succ, List.setIfInBounds_toArray, List.set_cons_zero, List.set_cons_succ])
                  refine wpAnyH_take (i := 3) (oi := ({ dst := some 104, op := Go.Op.load 40 (Go.Operand.tmp 103), type := 40, pos := "law.go:174", after := #[{ on := 2, ground := Go.Ground.data }], guard := none } : Go.Oper)) (v := ?v19) rfl (by kernel_rfl) (by kernel_rfl) (by kernel_rfl) (fun _ _ _ h => h) (Or.inl ⟨by rfl, ?hy19⟩) (by assumption) ?rest19
                  case hy19 => (intro w hSw; (try dsimp only at hSw); go_simp; (try with_reducible rfl))
                  (try simp only [Act.put, List.getElem_toArray, List.getElem_cons_zero, List.getElem_cons_succ, List.setIfInBounds_toArray, List.set_cons_zero, List.set_cons_succ])
                  refine wpAnyH_take (i := 4) (oi := ({ dst := some 105, op := Go.Op.move (Go.Operand.tmp 11), type := 26, pos := "law.go:174", after := #[], guard := none } : Go.Oper)) (v := ?v20) rfl (by kernel_rfl) (by kernel_rfl) (by kernel_rfl) (fun _ _ _ h => h) (Or.inl ⟨by rfl, ?hy20⟩) (by assumption) ?rest20
                  case hy20 => (intro w hSw; (try dsimp only at hSw); go_simp; (try with_reducible rfl))
                  (try simp only [Act.put, List.getElem_toArray, List.getElem_cons_zero, List.getElem_cons_succ, List.setIfInBounds_toArray, List.set_cons_zero, List.set_cons_succ])
                  refine wpAnyH_take (i := 5) (oi := ({ dst := some 106, op := Go.Op.move (Go.Operand.tmp 13), type := 3, pos := "law.go:174", after := #[], guard := none } : Go.Oper)) (v := ?v21) rfl (by kernel_rfl) (by kernel_rfl) (by kernel_rfl) (fun _ _ _ h => h) (Or.inl ⟨by rfl, ?hy21⟩) (by assumption) ?rest21
                  case hy21 => (intro w hSw; (try dsimp only at hSw); go_simp; (try with_reducible rfl))
                  (try simp only [Act.put, List.getElem_toArray, List.getElem_cons_zero, List.getElem_cons_succ, List.setIfInBounds_toArray, List.set_cons_zero, List.set_cons_succ])
                  refine wpAnyH_take (i := 6) (oi := ({ dst := some 107, op := Go.Op.indexAddr 26 (Go.Operand.tmp 105) (Go.Operand.tmp 106), type := 0, pos := "law.go:174", after := #[{ on := 4, ground := Go.Ground.data }, { on := 5, ground := Go.Ground.data }], guard := none } : Go.Oper)) (v := ?v22) rfl (by kernel_rfl) (by kernel_rfl) (by kernel_rfl) (fun _ _ _ h => h) (Or.inl ⟨by rfl, ?hy22⟩) (by assumption) ?rest22
                  case hy22 => (intro w hSw; (try dsimp only at hSw); go_simp; (try with_reducible rfl))
                  (try simp only [Act.put, List.getElem_toArray, List.getElem_cons_zero, List.getElem_cons_succ, List.setIfInBounds_toArray, List.set_cons_zero, List.set_cons_succ])
                  refine wpAnyH_take (i := 7) (oi := ({ dst := some 108, op := Go.Op.load 40 (Go.Operand.tmp 107), type := 40, pos := "law.go:174", after := #[{ on := 6, ground := Go.Ground.data }], guard := none } : Go.Oper)) (v := ?v23) rfl (by kernel_rfl) (by kernel_rfl) (by kernel_rfl) (fun _ _ _ h => h) (Or.inl ⟨by rfl, ?hy23⟩) (by assumption) ?rest23
                  case hy23 => (intro w hSw; (try dsimp only at hSw); go_simp; (try with_reducible rfl))
                  (try simp only [Act.put, List.getElem_toArray, List.getElem_cons_zero, List.getElem_cons_succ, List.setIfInBounds_toArray, List.set_cons_zero, List.set_cons_succ])
                  refine wpAnyH_ready (rs := [8]) (by kernel_rfl) (by simp) ?_
                  refine AllReadyH.cons (o := ({ dst := some 109, op := Go.Op.call { callee := Go.Callee.value (Go.Operand.func 28), args := #[Go.Operand.tmp 104, Go.Operand.tmp 108], argTypes := #[40, 40] }, type := 3, pos := "law.go:174", after := #[{ on := 3, ground := Go.Ground.data }, { on := 7, ground := Go.Ground.data }], guard := none } : Go.Oper)) rfl (fun K hK => ?_) AllReadyH.nil
                  go_simp
                  refine (rcompare_any _ _ x y _ ?_ ?_).mono ?_; exact HRX.out.ext (by with_reducible (repeat (first | exact Ext.rfl_ _ | assumption | refine Ext.drew ?_ | refine Ext.drewN ?_ _ | refine Ext.alloc ?_ _ | refine Ext.trans ?_ (by assumption)))); exact HRY.out.ext (by with_reducible (repeat (first | exact Ext.rfl_ _ | assumption | refine Ext.drew ?_ | refine Ext.drewN ?_ _ | refine Ext.alloc ?_ _ | refine Ext.trans ?_ (by assumption)))); rintro e w7 ⟨rfl, hw7⟩; rw [HCMP.out]
                  (try (go_wp2_with fail))
                  refine hK.out _ _ (by (try dsimp only); exact ⟨⟨Ext.keeps (show Ext wr _ from (by with_reducible (repeat (first | exact Ext.rfl_ _ | assumption | refine Ext.drew ?_ | refine Ext.drewN ?_ _ | refine Ext.alloc ?_ _ | refine Ext.trans ?_ (by assumption))))) _ _ _ HKE.out.1.1, Ext.keeps (show Ext wr _ from (by with_reducible (repeat (first | exact Ext.rfl_ _ | assumption | refine Ext.drew ?_ | refine Ext.drewN ?_ _ | refine Ext.alloc ?_ _ | refine Ext.trans ?_ (by assumption))))) _ _ _ HKE.out.1.2.1, Ext.keeps (show Ext wr _ from (by with_reducible (repeat (first | exact Ext.rfl_ _ | assumption | refine Ext.drew ?_ | refine Ext.drewN ?_ _ | refine Ext.alloc ?_ _ | refine Ext.trans ?_ (by assumption))))) _ _ _ HKE.out.1.2.2.1, Ext.keeps (show Ext wr _ from (by with_reducible (repeat (first | exact Ext.rfl_ _ | assumption | refine Ext.drew ?_ | refine Ext.drewN ?_ _ | refine Ext.alloc ?_ _ | refine Ext.trans ?_ (by assumption))))) _ _ _ HKE.out.1.2.2.2⟩, Ext.keeps (show Ext wr _ from (by with_reducible (repeat (first | exact Ext.rfl_ _ | assumption | refine Ext.drew ?_ | refine Ext.drewN ?_ _ | refine Ext.alloc ?_ _ | refine Ext.trans ?_ (by assumption))))) _ _ _ HKE.out.2.1, Ext.keeps (show Ext wr _ from (by with_reducible (repeat (first | exact Ext.rfl_ _ | assumption | refine Ext.drew ?_ | refine Ext.drewN ?_ _ | refine Ext.alloc ?_ _ | refine Ext.trans ?_ (by assumption))))) _ _ _ HKE.out.2.2.1, Ext.keeps (show Ext wr _ from (by with_reducible (repeat (first | exact Ext.rfl_ _ | assumption | refine Ext.drew ?_ | refine Ext.drewN ?_ _ | refine Ext.alloc ?_ _ | refine Ext.trans ?_ (by assumption))))) _ _ _ HKE.out.2.2.2.1, Ext.keeps (show Ext wr _ from (by with_reducible (repeat (first | exact Ext.rfl_ _ | assumption | refine Ext.drew ?_ | refine Ext.drewN ?_ _ | refine Ext.alloc ?_ _ | refine Ext.trans ?_ (by assumption))))) _ _ _ HKE.out.2.2.2.2⟩) (fun hHeld => ?_)
                  clear hK K
                  (try simp only [Act.put, List.getElem_toArray, List.getElem_cons_zero, List.getElem_cons_succ, List.setIfInBounds_toArray, List.set_cons_zero, List.set_cons_succ])
                  refine wpAnyH_take (i := 9) (oi := ({ dst := some 110, op := Go.Op.binOp Go.BinOp.neq 3 (Go.Operand.tmp 109) (Go.Operand.const (Go.Value.int Go.IntKind.i64 0)) 3, type := 4, pos := "law.go:174", after := #[{ on := 8, ground := Go.Ground.data }], guard := none } : Go.Oper)) (v := ?v24) rfl (by kernel_rfl) (by kernel_rfl) (by kernel_rfl) (fun _ _ _ h => h) (Or.inl ⟨by rfl, ?hy24⟩) (by assumption) ?rest24
                  case hy24 => (intro w hSw; (try dsimp only at hSw); go_simp; (try with_reducible rfl))
                  (try simp only [Act.put, List.getElem_toArray, List.getElem_cons_zero, List.getElem_cons_succ, List.setIfInBounds_toArray, List.set_cons_zero, List.set_cons_succ])
                  refine wpAnyH_done (by kernel_rfl) ?_ _
                  all_goals
                    have X7 := Lib.hid (hE6.out.trans (show Ext wr w7 from (by with_reducible (repeat (first | exact Ext.rfl_ _ | assumption | refine Ext.drew ?_ | refine Ext.drewN ?_ _ | refine Ext.alloc ?_ _ | refine Ext.trans ?_ (by assumption))))))
                    clear hw7 e0 e1 e2 e3 f0 f1 f2 f3
                    go_wp2
                    go_roundw
                    case rel => exact ⟨j + 1, by go_num, by omega, Lib.hid (X7.out.trans (by with_reducible (repeat (first | exact Ext.rfl_ _ | assumption | refine Ext.drew ?_ | refine Ext.drewN ?_ _ | refine Ext.alloc ?_ _ | refine Ext.trans ?_ (by assumption)))))⟩
                    case measure => simp [intOf]; omega
                · have hltI : ¬ (j : Int) < (L.length : Int) := by omega
                  have X5r := Lib.hid (X56.out.trans hE6.out)
                  clear hlt
                  go_wp2_with fail
                  refine (rsameL_any A' L.length c' A3 L.length c3 (L.map Nd.x) (L2.map Nd.x) _ (HR.out.ext (X45.out.trans (X5r.out.trans (by with_reducible (repeat (first | exact Ext.rfl_ _ | assumption | refine Ext.drew ?_ | refine Ext.drewN ?_ _ | refine Ext.alloc ?_ _ | refine Ext.trans ?_ (by assumption))))))) (HR3.out.ext (X5r.out.trans (by with_reducible (repeat (first | exact Ext.rfl_ _ | assumption | refine Ext.drew ?_ | refine Ext.drewN ?_ _ | refine Ext.alloc ?_ _ | refine Ext.trans ?_ (by assumption))))))).mono ?_
                  rintro e w7 ⟨rfl, hw7⟩
                  obtain ⟨bb, hbb⟩ : ∃ bb, bb = decide (L.map Nd.x = L2.map Nd.x) := ⟨_, rfl⟩
                  rw [← hbb]
                  have HBB := Lib.hid hbb
                  have hb2 : (bb == bb) = true := by simp
                  have X57 := Lib.hid (X5r.out.trans (show Ext wr w7 from (by with_reducible (repeat (first | exact Ext.rfl_ _ | assumption | refine Ext.drew ?_ | refine Ext.drewN ?_ _ | refine Ext.alloc ?_ _ | refine Ext.trans ?_ (by assumption))))))
                  clear hbb hw7
                  go_wp2_with fail
                  refine (sksame_any g h g2 h2 L L2 _ (HS2.out.ext (X57.out.trans (by with_reducible (repeat (first | exact Ext.rfl_ _ | assumption | refine Ext.drew ?_ | refine Ext.drewN ?_ _ | refine Ext.alloc ?_ _ | refine Ext.trans ?_ (by assumption)))))) (HF2.out.s.ext (X57.out.trans (by with_reducible (repeat (first | exact Ext.rfl_ _ | assumption | refine Ext.drew ?_ | refine Ext.drewN ?_ _ | refine Ext.alloc ?_ _ | refine Ext.trans ?_ (by assumption))))))).mono ?_
                  rintro e w8 ⟨rfl, hw8⟩
                  rw [← HBB.out]
                  go_wp2
                  go_ret
                  exact ⟨rfl, XW5.out.trans (X57.out.trans (by with_reducible (repeat (first | exact Ext.rfl_ _ | assumption | refine Ext.drew ?_ | refine Ext.drewN ?_ _ | refine Ext.alloc ?_ _ | refine Ext.trans ?_ (by assumption)))))⟩
    · have h100I : (100 : Int) < (n : Int) := by omega
      clear h100
      go_enter Try.func7, Try.ntmps7
      go_wp2_with fail
      refine (known_any _).mono ?_
      rintro e w1 ⟨rfl, hw1⟩
      go_wp2_with fail
      refine (few_any A n c xs _ (HL.out.ext (by with_reducible (repeat (first | exact Ext.rfl_ _ | assumption | refine Ext.drew ?_ | refine Ext.drewN ?_ _ | refine Ext.alloc ?_ _ | refine Ext.trans ?_ (by assumption)))))).mono ?_
      rintro e w2 ⟨rfl, hw2⟩
      rw [HFW.out]
      go_wp2
      go_ret
      exact ⟨rfl, (by with_reducible (repeat (first | exact Ext.rfl_ _ | assumption | refine Ext.drew ?_ | refine Ext.drewN ?_ _ | refine Ext.alloc ?_ _ | refine Ext.trans ?_ (by assumption))))⟩
  · have hf' : (decide (n ≤ 200) && !decide (200000 < wt xs)) = false := by simpa using hf
    have HFW := Lib.hid hf'
    clear hf hf'
    go_enter Try.func7, Try.ntmps7
    go_wp2_with fail
    refine (known_any _).mono ?_
    rintro e w1 ⟨rfl, hw1⟩
    go_wp2_with fail
    refine (few_any A n c xs _ (HL.out.ext (by with_reducible (repeat (first | exact Ext.rfl_ _ | assumption | refine Ext.drew ?_ | refine Ext.drewN ?_ _ | refine Ext.alloc ?_ _ | refine Ext.trans ?_ (by assumption)))))).mono ?_
    rintro e w2 ⟨rfl, hw2⟩
    rw [HFW.out]
    go_wp2
    go_ret
    exact ⟨rfl, (by with_reducible (repeat (first | exact Ext.rfl_ _ | assumption | refine Ext.drew ?_ | refine Ext.drewN ?_ _ | refine Ext.alloc ?_ _ | refine Ext.trans ?_ (by assumption))))⟩
end

end Go.Proofs.Ytddaagldelcbeaa
