/- Contracts of block.find, block.Get, block.Read, block.Restarts. Conditions: the slices read. -/
import Derived.Test.YthfhococglbpoaaBlkO
import Derived.Test.YthfhococglbpoaaRf6G
namespace Go.Proofs.Ythfhococglbpoaa
set_option linter.unusedSimpArgs false
set_option linter.unusedVariables false
open Go.RowKit

theorem takeWhile_at {P : Ent → Bool} {xs : List Ent} {k : Nat} (hk : k ≤ xs.length) (h1 : ∀ j (h : j < xs.length), j < k → P xs[j] = true) (h2 : ∀ (h : k < xs.length), P xs[k] = false) : (xs.takeWhile P).length = k := by
  induction xs generalizing k with
  | nil => simp at hk; simp [hk]
  | cons a xs ih =>
    cases k with
    | zero =>
      have := h2 (by simp)
      simp at this
      simp [List.takeWhile, this]
    | succ k =>
      have h0 := h1 0 (by simp) (by omega)
      simp at h0
      simp only [List.takeWhile, h0, List.length_cons]
      rw [ih (by simpa using hk) (fun j h hj => by have := h1 (j + 1) (by simpa using h) (by omega); simpa using this) (fun h => by have := h2 (by simpa using h); simpa using this)]

set_option maxRecDepth 100000 in
set_option maxHeartbeats 2000000 in
theorem find_any (P : Ent → Bool) (gf : Nat) (lb : Array Value) (A : Option Addr) (n c : Nat) (xs : List Ent) (w : World) (eg : ∀ args w, (callFunc gf args).run Try.prog w = .ok (.enter gf args) w) (hl : RdL w A n xs) (hnc : n ≤ c)
    (hmono : ∀ i j (hi : i < xs.length) (hj : j < xs.length), i ≤ j → P xs[j] = true → P xs[i] = true)
    (hcall : ∀ (v : Value) (x : Ent) (wv : World), Ext w wv → RdE wv v x → Calls Try.prog gf (#[v] ++ lb) wv fun e w' => e = .returned (.bool (P x)) ∧ Ext wv w') :
    Calls Try.prog 32 #[.slice A n c, .func (.func gf) #[] lb] w fun e w' => e = .returned (.int .i64 (xs.takeWhile P).length) ∧ Ext w w' := by
  have HL := Lib.hid hl
  have hxl := hl.1
  have hn41 := hl.2.1
  unfold B41 at hn41
  have HM := Lib.hid hmono
  have HC := Lib.hid hcall
  clear hl hmono hcall
  go_enter Try.func32, Try.ntmps32
  go_wp2
  refine wp_scope_straight ?_
  go_wp2
  refine wp_label ?_
  go_wp2
  go_loopw [5, 6] (fun lo hi wr => ∃ i j : Nat, i ≤ j ∧ j ≤ n ∧ lo = .int .i64 i ∧ hi = .int .i64 j ∧ Ext w wr ∧ (∀ q (h : q < xs.length), q < i → P xs[q] = true) ∧ (∀ q (h : q < xs.length), j ≤ q → P xs[q] = false)) (fun lo hi _ => (intOf hi).toNat - (intOf lo).toNat)
  case atStart => exact ⟨0, n, Nat.zero_le _, Nat.le_refl _, rfl, rfl, Ext.rfl_ _, fun q h hq => by omega, fun q h hq => by omega⟩
  case round =>
    obtain ⟨i, j, hij, hjn, rfl, rfl, hE, h1, h2⟩ := hrel
    have HE := Lib.hid hE
    have H1 := Lib.hid h1
    have H2 := Lib.hid h2
    clear hE h1 h2
    by_cases hlt : i < j
    · have hltI : (i : Int) < (j : Int) := by omega
      obtain ⟨m, hm⟩ : ∃ m, m = (i + j) / 2 := ⟨_, rfl⟩
      have hmI : ((i : Int) + (j : Int)) / 2 = (m : Int) := by omega
      have hmn : m < n := by omega
      have hmni : (m : Int) < (n : Int) := by omega
      have hmc : m < c := by omega
      have hncI : (n : Int) ≤ (c : Int) := by omega
      have him : i ≤ m := by omega
      have hmj : m < j := by omega
      clear hm
      obtain ⟨b, o, rfl, _⟩ := HL.out.2.2 (by omega)
      obtain ⟨A1, n1, c1, A2, n2, c2, hx, e0, e1, e2, e3, hry⟩ := r6at HL.out hmn HE.out
      have HR := Lib.hid (hry.ext HE.out)
      clear hry
      go_wp2_with fail
      refine (HC.out _ xs[m] wr HE.out HR.out).mono ?_
      rintro e w1 ⟨rfl, hw1⟩
      by_cases hp : P xs[m] = true
      · have HP := Lib.hid hp
        rw [hp]
        clear hp
        go_wp2
        go_roundw
        case rel =>
          refine ⟨m + 1, j, by omega, hjn, by simp, rfl, HE.out.trans hw1, fun q h hq => ?_, H2.out⟩
          exact HM.out q m h hx (by omega) HP.out
        case measure => simp [intOf]; omega
      · have hp' : P xs[m] = false := by simpa using hp
        have HP := Lib.hid hp'
        rw [hp']
        clear hp hp'
        go_wp2
        go_roundw
        case rel =>
          refine ⟨i, m, him, by omega, rfl, rfl, HE.out.trans hw1, H1.out, fun q h hq => ?_⟩
          cases hpq : P xs[q] with
          | false => rfl
          | true => have := HM.out m q hx h hq hpq; rw [HP.out] at this; cases this
        case measure => simp [intOf]; omega
    · obtain rfl : i = j := by omega
      have hr := takeWhile_at (P := P) (xs := xs) (k := i) (by omega) H1.out (fun h => H2.out i h (Nat.le_refl _))
      have HR := Lib.hid hr
      clear hr
      go_wp2
      (try rw [Exit.noGoto_ret])
      go_ret
      exact ⟨ret_i (by rw [HR.out]), HE.out⟩

set_option maxRecDepth 100000 in
theorem bread_any (A : Option Addr) (n c : Nat) (b : Bs) (w : World) (hx : Rd w A n b) (hnc : n ≤ c) (hn : n ≤ B40) :
    Calls Try.prog 21 #[.slice A n c] w fun e w' => ∃ vl, e = .returned (.tuple #[vl, .int .i64 (opN b)]) ∧ OwnF w' w.heap.size vl (opE b) ∧ Ext w w' := by
  go_enter Try.func21, Try.ntmps21
  go_wp2_with fail
  refine (open_blk A n c b _ hx hnc hn).mono ?_
  rintro e w1 ⟨vl, va, rfl, h1, h2, h3⟩
  go_wp2
  go_ret2
  exact ⟨vl, rfl, h1, h3⟩

set_option maxRecDepth 100000 in
theorem brest_any (A : Option Addr) (n c : Nat) (b : Bs) (w : World) (hx : Rd w A n b) (hnc : n ≤ c) (hn : n ≤ B40) :
    Calls Try.prog 29 #[.slice A n c] w fun e w' => ∃ va, e = .returned (.tuple #[va, .int .i64 (opN b)]) ∧ OwnI w' w.heap.size va (posI (opE b)) ∧ Ext w w' := by
  go_enter Try.func29, Try.ntmps29
  go_wp2_with fail
  refine (open_blk A n c b _ hx hnc hn).mono ?_
  rintro e w1 ⟨vl, va, rfl, h1, h2, h3⟩
  go_wp2
  go_ret2
  exact ⟨va, rfl, h2, h3⟩
end Go.Proofs.Ythfhococglbpoaa
