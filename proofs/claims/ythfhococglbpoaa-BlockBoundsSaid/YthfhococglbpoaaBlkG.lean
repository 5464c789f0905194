/- Contracts of block.find, block.Get, block.Read, block.Restarts. Conditions: the slices read. -/
/- Contract of block.Get: what is found of a key, up to a number. Conditions: the slices read. -/
import Derived.Test.YthfhococglbpoaaBlkO
import Derived.Test.YthfhococglbpoaaRf6G
import Derived.Test.YthfhococglbpoaaInsP
import Derived.Shelf.Abstract
namespace Go.Proofs.Ythfhococglbpoaa
set_option linter.unusedSimpArgs false
set_option linter.unusedVariables false
open Go.RowKit

theorem takeWhile_at {P : Ent → Bool} {xs : List Ent} {k : Nat} (hk : k ≤ xs.length) (h1 : ∀ j (h : j < xs.length), j < k → P xs[j] = true) (h2 : ∀ (h : k < xs.length), P xs[k] = false) : (xs.takeWhile P).length = k := by
  induction xs generalizing k with
  | nil => simp at hk; simp [hk]
  | cons a xs ih =>
    cases k with
    | zero =>
      have := h2 (by simp)
      simp at this
      simp [List.takeWhile, this]
    | succ k =>
      have h0 := h1 0 (by simp) (by omega)
      simp at h0
      simp only [List.takeWhile, h0, List.length_cons]
      rw [ih (by simpa using hk) (fun j h hj => by have := h1 (j + 1) (by simpa using h) (by omega); simpa using this) (fun h => by have := h2 (by simpa using h); simpa using this)]

set_option maxRecDepth 100000 in
set_option maxHeartbeats 2000000 in
theorem find_any (P : Ent → Bool) (gf : Nat) (lb : Array Value) (A : Option Addr) (n c : Nat) (xs : List Ent) (w : World) (eg : ∀ args w, (callFunc gf args).run Try.prog w = .ok (.enter gf args) w) (hl : RdL w A n xs) (hnc : n ≤ c)
    (hmono : ∀ i j (hi : i < xs.length) (hj : j < xs.length), i ≤ j → P xs[j] = true → P xs[i] = true)
    (hcall : ∀ (v : Value) (x : Ent) (wv : World), Ext w wv → RdE wv v x → Calls Try.prog gf (#[v] ++ lb) wv fun e w' => e = .returned (.bool (P x)) ∧ Ext wv w') :
    Calls Try.prog 32 #[.slice A n c, .func (.func gf) #[] lb] w fun e w' => e = .returned (.int .i64 (xs.takeWhile P).length) ∧ Ext w w' := by
  have HL := Lib.hid hl
  have hxl := hl.1
  have hn41 := hl.2.1
  unfold B41 at hn41
  have HM := Lib.hid hmono
  have HC := Lib.hid hcall
  clear hl hmono hcall
  go_enter Try.func32, Try.ntmps32
  go_wp2
  refine wp_scope_straight ?_
  go_wp2
  refine wp_label ?_
  go_wp2
  go_loopw [5, 6] (fun lo hi wr => ∃ i j : Nat, i ≤ j ∧ j ≤ n ∧ lo = .int .i64 i ∧ hi = .int .i64 j ∧ Ext w wr ∧ (∀ q (h : q < xs.length), q < i → P xs[q] = true) ∧ (∀ q (h : q < xs.length), j ≤ q → P xs[q] = false)) (fun lo hi _ => (intOf hi).toNat - (intOf lo).toNat)
  case atStart => exact ⟨0, n, Nat.zero_le _, Nat.le_refl _, rfl, rfl, Ext.rfl_ _, fun q h hq => by omega, fun q h hq => by omega⟩
  case round =>
    obtain ⟨i, j, hij, hjn, rfl, rfl, hE, h1, h2⟩ := hrel
    have HE := Lib.hid hE
    have H1 := Lib.hid h1
    have H2 := Lib.hid h2
    clear hE h1 h2
    by_cases hlt : i < j
    · have hltI : (i : Int) < (j : Int) := by omega
      obtain ⟨m, hm⟩ : ∃ m, m = (i + j) / 2 := ⟨_, rfl⟩
      have hmI : ((i : Int) + (j : Int)) / 2 = (m : Int) := by omega
      have hmn : m < n := by omega
      have hmni : (m : Int) < (n : Int) := by omega
      have hmc : m < c := by omega
      have hncI : (n : Int) ≤ (c : Int) := by omega
      have him : i ≤ m := by omega
      have hmj : m < j := by omega
      clear hm
      obtain ⟨b, o, rfl, _⟩ := HL.out.2.2 (by omega)
      obtain ⟨A1, n1, c1, A2, n2, c2, hx, e0, e1, e2, e3, hry⟩ := r6at HL.out hmn HE.out
      have HR := Lib.hid (hry.ext HE.out)
      clear hry
      go_wp2_with fail
      refine (HC.out _ xs[m] wr HE.out HR.out).mono ?_
      rintro e w1 ⟨rfl, hw1⟩
      by_cases hp : P xs[m] = true
      · have HP := Lib.hid hp
        rw [hp]
        clear hp
        go_wp2
        go_roundw
        case rel =>
          refine ⟨m + 1, j, by omega, hjn, by simp, rfl, HE.out.trans hw1, fun q h hq => ?_, H2.out⟩
          exact HM.out q m h hx (by omega) HP.out
        case measure => simp [intOf]; omega
      · have hp' : P xs[m] = false := by simpa using hp
        have HP := Lib.hid hp'
        rw [hp']
        clear hp hp'
        go_wp2
        go_roundw
        case rel =>
          refine ⟨i, m, him, by omega, rfl, rfl, HE.out.trans hw1, H1.out, fun q h hq => ?_⟩
          cases hpq : P xs[q] with
          | false => rfl
          | true => have := HM.out m q hx h hq hpq; rw [HP.out] at this; cases this
        case measure => simp [intOf]; omega
    · obtain rfl : i = j := by omega
      have hr := takeWhile_at (P := P) (xs := xs) (k := i) (by omega) H1.out (fun h => H2.out i h (Nat.le_refl _))
      have HR := Lib.hid hr
      clear hr
      go_wp2
      (try rw [Exit.noGoto_ret])
      go_ret
      exact ⟨ret_i (by rw [HR.out]), HE.out⟩

set_option maxRecDepth 100000 in
theorem bread_any (A : Option Addr) (n c : Nat) (b : Bs) (w : World) (hx : Rd w A n b) (hnc : n ≤ c) (hn : n ≤ B40) :
    Calls Try.prog 21 #[.slice A n c] w fun e w' => ∃ vl, e = .returned (.tuple #[vl, .int .i64 (opN b)]) ∧ OwnF w' w.heap.size vl (opE b) ∧ Ext w w' := by
  go_enter Try.func21, Try.ntmps21
  go_wp2_with fail
  refine (open_blk A n c b _ hx hnc hn).mono ?_
  rintro e w1 ⟨vl, va, rfl, h1, h2, h3⟩
  go_wp2
  go_ret2
  exact ⟨vl, rfl, h1, h3⟩

set_option maxRecDepth 100000 in
theorem brest_any (A : Option Addr) (n c : Nat) (b : Bs) (w : World) (hx : Rd w A n b) (hnc : n ≤ c) (hn : n ≤ B40) :
    Calls Try.prog 29 #[.slice A n c] w fun e w' => ∃ va, e = .returned (.tuple #[va, .int .i64 (opN b)]) ∧ OwnI w' w.heap.size va (posI (opE b)) ∧ Ext w w' := by
  go_enter Try.func29, Try.ntmps29
  go_wp2_with fail
  refine (open_blk A n c b _ hx hnc hn).mono ?_
  rintro e w1 ⟨vl, va, rfl, h1, h2, h3⟩
  go_wp2
  go_ret2
  exact ⟨va, rfl, h2, h3⟩

open Go.RowKit Go.Shelf

/-- What is found of a key, up to a number, in entries that rise. -/
def gB (xs : List Ent) (k : Bs) (sq : Int) : Option Ent := match xs.dropWhile (ahE ⟨k, sq, 0, []⟩) with
  | [] => none
  | y :: _ => if y.key = k then some y else none
/-- Of entries that rise it is the first one of the key, of a number that is not above. -/
theorem gB_find {xs : List Ent} (hu : xs.Pairwise fun a b => cmpE a b < 0) (k : Bs) (sq : Int) : gB xs k sq = xs.find? (getP k sq) := by
  have key : ∀ y : Ent, getP k sq y = true ↔ (y.key = k ∧ ahE ⟨k, sq, 0, []⟩ y = false) := by
    intro y
    simp only [getP, ahE, decide_eq_true_eq, decide_eq_false_iff_not, cmpE, orI, cmpI]
    refine ⟨fun h => ⟨h.1, ?_⟩, fun h => ⟨h.1, ?_⟩⟩
    · rw [if_pos ((cmpK_eq_zero _ _).2 h.1)]; split <;> (try split) <;> omega
    · have h2 := h.2
      rw [if_pos ((cmpK_eq_zero _ _).2 h.1)] at h2
      split at h2 <;> (try split at h2) <;> omega
  have low : ∀ (x y : Ent), cmpE x y < 0 → ahE ⟨k, sq, 0, []⟩ x = false → x.key ≠ k → y.key ≠ k := by
    intro x y hxy hx hxk hyk
    have h1 : ¬ cmpE x ⟨k, sq, 0, []⟩ < 0 := by simpa [ahE] using hx
    have hck : cmpK x.key k ≠ 0 := fun e => hxk ((cmpK_eq_zero _ _).1 e)
    have h2 : cmpK x.key k = 1 := by
      simp only [cmpE, orI, if_neg hck] at h1
      rcases cmpK_range x.key k with h | h | h <;> omega
    simp only [cmpE, orI] at hxy
    rw [hyk, if_neg hck] at hxy
    omega
  unfold gB
  induction xs with
  | nil => rfl
  | cons x xs ih =>
    rw [List.pairwise_cons] at hu
    by_cases hx : ahE ⟨k, sq, 0, []⟩ x = true
    · have hn : getP k sq x = false := by
        cases h : getP k sq x with
        | false => rfl
        | true => have := (key x).1 h; rw [hx] at this; exact absurd this.2 (by simp)
      rw [List.dropWhile_cons_of_pos hx, List.find?_cons_of_neg (by rw [hn]; simp)]
      exact ih hu.2
    · have hx' : ahE ⟨k, sq, 0, []⟩ x = false := by simpa using hx
      rw [List.dropWhile_cons_of_neg hx]
      simp only
      by_cases hk : x.key = k
      · rw [if_pos hk, List.find?_cons_of_pos ((key x).2 ⟨hk, hx'⟩)]
      · rw [if_neg hk, List.find?_cons_of_neg (fun h => hk ((key x).1 h).1)]
        refine (List.find?_eq_none.2 fun y hy h => ?_).symm
        exact low x y (hu.1 y hy) hx' hk ((key y).1 h).1


theorem cmpE_tr' {a b c : Ent} (h1 : cmpE a b < 0) (h2 : cmpE b c < 0) : cmpE a c < 0 := by
  have h3 := cmpE_trans a b c (by omega) (by omega)
  rcases cmpE_range a c with h | h | h
  · omega
  · have h4 := cmpE_trans c a b (by rw [cmpE_anti a c]; omega) (by omega)
    have h5 := cmpE_anti b c
    omega
  · omega
/-- What rises lies in order, each ahead of each behind it. -/
theorem rise_up {xs : List Ent} (h : riseB xs = true) : xs.Pairwise fun a b => cmpE a b < 0 := by
  have key : ∀ (xs : List Ent) (p : Option Ent), (ris p xs).length = xs.length → (xs.Pairwise fun a b => cmpE a b < 0) ∧ ∀ y, p = some y → ∀ x ∈ xs, cmpE y x < 0 := by
    intro xs
    induction xs with
    | nil => intro p _; exact ⟨List.Pairwise.nil, fun y _ x hx => by simp at hx⟩
    | cons a xs ih =>
      intro p hl
      rw [ris] at hl
      split at hl
      · rename_i hb
        simp at hl
        obtain ⟨h1, h2⟩ := ih _ hl
        refine ⟨List.pairwise_cons.2 ⟨fun x hx => h2 a rfl x hx, h1⟩, fun y hy x hx => ?_⟩
        subst hy
        have hya : cmpE y a < 0 := by
          unfold behO at hb
          simp at hb
          exact hb.2
        rcases List.mem_cons.1 hx with rfl | hx
        · exact hya
        · exact cmpE_tr' hya (h2 a rfl x hx)
      · simp at hl
  unfold riseB at h
  exact (key xs none (of_decide_eq_true h)).1
theorem opE_up (b : Bs) : (opE b).Pairwise fun a b => cmpE a b < 0 := by
  unfold opE
  cases h : blkR b with
  | none => exact List.Pairwise.nil
  | some xs =>
    have := (blkR_is h).1
    unfold mayL at this
    simp at this
    exact rise_up this.2
theorem opE_len (b : Bs) : (opE b).length ≤ 1024 := by
  unfold opE
  cases h : blkR b with
  | none => simp
  | some xs => exact (blkR_is h).len.2
theorem pw_at {xs : List Ent} (h : xs.Pairwise fun a b => cmpE a b < 0) {i j : Nat} (hi : i < xs.length) (hj : j < xs.length) (hij : i ≤ j) : cmpE xs[i] xs[j] ≤ 0 := by
  rcases Nat.lt_or_ge i j with h1 | h1
  · have := List.pairwise_iff_getElem.1 h i j hi hj h1
    omega
  · have : i = j := by omega
    subst this
    have := cmpE_anti xs[i] xs[i]
    omega
theorem ahE_mono {xs : List Ent} (h : xs.Pairwise fun a b => cmpE a b < 0) (p : Ent) : ∀ i j (hi : i < xs.length) (hj : j < xs.length), i ≤ j → ahE p xs[j] = true → ahE p xs[i] = true := by
  intro i j hi hj hij hp
  have h1 := pw_at h hi hj hij
  unfold ahE at *
  simp at *
  have h3 := cmpE_trans xs[i] xs[j] p h1 (by omega)
  rcases cmpE_range xs[i] p with h | h | h
  · omega
  · have h4 := cmpE_trans p xs[i] xs[j] (by rw [cmpE_anti xs[i] p]; omega) h1
    have h5 := cmpE_anti xs[j] p
    omega
  · omega
theorem dropWhile_at {P : Ent → Bool} (xs : List Ent) : xs.dropWhile P = xs.drop (xs.takeWhile P).length := by
  induction xs with
  | nil => rfl
  | cons a xs ih =>
    by_cases h : P a = true
    · rw [List.dropWhile_cons_of_pos h, List.takeWhile_cons_of_pos h, List.length_cons, List.drop_succ_cons, ih]
    · rw [List.dropWhile_cons_of_neg h, List.takeWhile_cons_of_neg h]; rfl
theorem gB_at (xs : List Ent) (k : Bs) (sq : Int) {j : Nat} (hj : j = (xs.takeWhile (ahE ⟨k, sq, 0, []⟩)).length) : gB xs k sq = (if h : j < xs.length then (if xs[j].key = k then some xs[j] else none) else none) := by
  unfold gB
  rw [dropWhile_at, ← hj]
  by_cases h : j < xs.length
  · rw [dif_pos h, List.drop_eq_getElem_cons h]
  · rw [dif_neg h, List.drop_eq_nil_of_le (by omega)]

theorem rdE_set4 {w : World} {g : Nat} {t : TypeId} {v : Value} {x : Ent} {A B A' B' : Option Addr} {n c m d n' c' m' d' : Nat} {s q s' q' : Int} (h : RdE w v x) (hk : w.heap[g]? = some (.cells #[.slice A n c, .int .i64 s, .int .i64 q, .slice B m d] t (0, 0))) :
    RdE ((((w.setCell ⟨g, 0, none⟩ (.slice A' n' c')).setCell ⟨g, 1, none⟩ (.int .i64 s')).setCell ⟨g, 2, none⟩ (.int .i64 q')).setCell ⟨g, 3, none⟩ (.slice B' m' d')) v x := by
  obtain ⟨C, p, e, C', p', e', rfl, r1, r2, rest⟩ := h
  have h1 : (w.setCell ⟨g, 0, none⟩ (.slice A' n' c')).heap[g]? = some (.cells #[.slice A' n' c', .int .i64 s, .int .i64 q, .slice B m d] t (0, 0)) := by simp [World.setCell, Array.getElem?_modify, hk]
  have h2 : ((w.setCell ⟨g, 0, none⟩ (.slice A' n' c')).setCell ⟨g, 1, none⟩ (.int .i64 s')).heap[g]? = some (.cells #[.slice A' n' c', .int .i64 s', .int .i64 q, .slice B m d] t (0, 0)) := by simp [World.setCell, Array.getElem?_modify, hk]
  have h3 : (((w.setCell ⟨g, 0, none⟩ (.slice A' n' c')).setCell ⟨g, 1, none⟩ (.int .i64 s')).setCell ⟨g, 2, none⟩ (.int .i64 q')).heap[g]? = some (.cells #[.slice A' n' c', .int .i64 s', .int .i64 q', .slice B m d] t (0, 0)) := by simp [World.setCell, Array.getElem?_modify, hk]
  exact ⟨C, p, _, C', p', _, rfl, (((r1.setBlk hk four_no 0 _).setBlk h1 four_no 1 _).setBlk h2 four_no 2 _).setBlk h3 four_no 3 _, (((r2.setBlk hk four_no 0 _).setBlk h1 four_no 1 _).setBlk h2 four_no 2 _).setBlk h3 four_no 3 _, rest⟩
/-- What Get answers. -/
noncomputable def bgE (b k : Bs) (sq : Int) : Ent := ((opE b).find? (getP k sq)).getD ent0
noncomputable def bgN (b k : Bs) (sq : Int) : Int := if opN b = 0 then gN ((opE b).find? (getP k sq)) else 4

set_option maxRecDepth 100000 in
set_option maxHeartbeats 1000000 in
theorem bget1_any (gk gs : Nat) (A : Option Addr) (n c : Nat) (sq : Int) (v : Value) (k : Bs) (y : Ent) (w : World) (hg : w.cell? ⟨gk, 0, none⟩ = some (.slice A n c)) (hs : w.cell? ⟨gs, 0, none⟩ = some (.int .i64 sq)) (hk : Rd w A n k) (hnc : n ≤ c) (hn : n ≤ B47) (hy : RdE w v y) :
    Calls Try.prog 33 #[v, .pointer (some ⟨gk, 0, none⟩), .pointer (some ⟨gs, 0, none⟩)] w fun e w' => e = .returned (.bool (decide (cmpE y ⟨k, sq, 0, []⟩ < 0))) ∧ Ext w w' := by
  have HY := Lib.hid hy
  obtain ⟨A', n', c', B', m', d', rfl, _⟩ := hy
  have hx1 : Ext w (w.alloc (.cells #[.slice A' n' c', .int .i64 y.seq, .int .i64 y.kind, .slice B' m' d'] 28)) := (by with_reducible (repeat (first | exact Ext.rfl_ _ | assumption | refine Ext.drew ?_ | refine Ext.drewN ?_ _ | refine Ext.alloc ?_ _ | refine Ext.trans ?_ (by assumption))))
  obtain ⟨q0, q1, q2, q3, _, _, _, _⟩ := box4 (blk1 w (.cells #[.slice A' n' c', .int .i64 y.seq, .int .i64 y.kind, .slice B' m' d'] 28)) (Ext.rfl_ _)
  have hg1 := hx1.keeps _ _ _ hg
  have hs1 := hx1.keeps _ _ _ hs
  have HK := Lib.hid hk
  have HX := Lib.hid hx1
  clear hk hx1 hg hs
  go_enter Try.func33, Try.ntmps33
  go_wp2_with fail
  refine (compare_any _ _ y ⟨k, sq, 0, []⟩ _ (HY.out.ext (by with_reducible (repeat (first | exact Ext.rfl_ _ | assumption | refine Ext.drew ?_ | refine Ext.drewN ?_ _ | refine Ext.alloc ?_ _ | refine Ext.trans ?_ (by assumption))))) ⟨A, n, c, none, 0, 0, rfl, HK.out.ext (by with_reducible (repeat (first | exact Ext.rfl_ _ | assumption | refine Ext.drew ?_ | refine Ext.drewN ?_ _ | refine Ext.alloc ?_ _ | refine Ext.trans ?_ (by assumption)))), Rd.nil _ _, hnc, hn, Nat.le_refl _, Nat.zero_le _⟩).mono ?_
  rintro e w' ⟨rfl, hw'⟩
  go_wp2
  go_ret
  exact ⟨ret_bool rfl, (by with_reducible (repeat (first | exact Ext.rfl_ _ | assumption | refine Ext.drew ?_ | refine Ext.drewN ?_ _ | refine Ext.alloc ?_ _ | refine Ext.trans ?_ (by assumption))))⟩


set_option maxRecDepth 100000 in
set_option maxHeartbeats 4000000 in
theorem bget_any (A : Option Addr) (n c : Nat) (b : Bs) (B : Option Addr) (m d : Nat) (k : Bs) (sq : Int) (w : World) (hx : Rd w A n b) (hnc : n ≤ c) (hn : n ≤ B40) (hk : Rd w B m k) (hmd : m ≤ d) (hm : m ≤ B40) :
    Calls Try.prog 13 #[.slice A n c, .slice B m d, .int .i64 sq] w fun e w' => (∃ v, e = .returned (.tuple #[v, .int .i64 (bgN b k sq)]) ∧ RdE w' v (bgE b k sq)) ∧ Ext w w' := by
  have hmf : ∀ (fn : Fn) (first cap : Array Value) (w : World), (Instr.makeFunc fn first cap).run Try.prog w = .ok (.func fn first cap) w := fun _ _ _ _ => rfl
  have HX := Lib.hid hx
  have HK := Lib.hid hk
  have hm47 : m ≤ B47 := by unfold B40 at hm; unfold B47; omega
  have h0 := (cnew w (.slice B m d) 22).1
  have h1 := (cnew (w.alloc (.cells #[.slice B m d] 22)) (.int .i64 sq) 2).1
  rw [World.size_alloc] at h1
  have h2 := blk1 ((w.alloc (.cells #[.slice B m d] 22)).alloc (.cells #[.int .i64 sq] 2)) (.cells #[.slice none 0 0, .int .i64 0, .int .i64 0, .slice none 0 0] 28)
  rw [World.size_alloc, World.size_alloc] at h2
  have HK0 := Lib.hid (show ((w.alloc (.cells #[.slice B m d] 22)).alloc (.cells #[.int .i64 sq] 2)).cell? ⟨w.heap.size, 0, none⟩ = some (.slice B m d) from (Ext.alloc (Ext.rfl_ _) _).keeps _ _ _ h0)
  have HS0 := Lib.hid h1
  have HR0 := Lib.hid h2
  clear hx hk h0 h1 h2
  go_enter Try.func13, Try.ntmps13
  go_wp2_with fail
  obtain ⟨W3, hW3⟩ : ∃ W3, W3 = ((w.alloc (.cells #[.slice B m d] 22)).alloc (.cells #[.int .i64 sq] 2)).alloc (.cells #[.slice none 0 0, .int .i64 0, .int .i64 0, .slice none 0 0] 28) := ⟨_, rfl⟩
  have X3 := Lib.hid (show Ext w W3 by rw [hW3]; exact (by with_reducible (repeat (first | exact Ext.rfl_ _ | assumption | refine Ext.drew ?_ | refine Ext.drewN ?_ _ | refine Ext.alloc ?_ _ | refine Ext.trans ?_ (by assumption)))))
  have CK := Lib.hid (show W3.cell? ⟨w.heap.size, 0, none⟩ = some (.slice B m d) by rw [hW3]; exact (Ext.alloc (Ext.rfl_ _) _).keeps _ _ _ HK0.out)
  have CS := Lib.hid (show W3.cell? ⟨w.heap.size + 1, 0, none⟩ = some (.int .i64 sq) by rw [hW3]; exact (Ext.alloc (Ext.rfl_ _) _).keeps _ _ _ HS0.out)
  have CR := Lib.hid (show W3.heap[w.heap.size + 1 + 1]? = some (.cells #[.slice none 0 0, .int .i64 0, .int .i64 0, .slice none 0 0] 28 (0, 0)) by rw [hW3]; exact HR0.out)
  rw [← hW3]
  clear hW3
  refine (open_blk A n c b W3 (HX.out.ext X3.out) hnc hn).mono ?_
  rintro e w1 ⟨vl, va, rfl, hF, _, hw1⟩
  have X1 := Lib.hid (X3.out.trans hw1)
  have CR1 := Lib.hid (hw1.blk CR.out)
  have CK1 := Lib.hid (hw1.keeps _ _ _ CK.out)
  have CS1 := Lib.hid (hw1.keeps _ _ _ CS.out)
  have HF := Lib.hid hF
  clear hw1 hF CR CK CS HK0 HS0 HR0 X3
  by_cases hop : opN b = 0
  · rw [hop]
    have hlen := opE_len b
    have hup := opE_up b
    have hgn : bgN b k sq = gN ((opE b).find? (getP k sq)) := by unfold bgN; rw [if_pos hop]
    have hge : bgE b k sq = ((opE b).find? (getP k sq)).getD ent0 := rfl
    rw [← gB_find hup] at hgn hge
    obtain ⟨xs, hxs⟩ : ∃ xs, xs = opE b := ⟨_, rfl⟩
    rw [← hxs] at HF hlen hup hgn hge
    have HGN := Lib.hid hgn
    have HGE := Lib.hid hge
    clear hxs hgn hge
    obtain ⟨Al, cl, rfl, hcl, hrdl, hil, hAl⟩ := HF.out.ownL.form (by unfold B41; omega)
    have HRL := Lib.hid hrdl
    have HUP := Lib.hid hup
    clear hrdl hil hup
    go_wp2_with fail
    refine (find_any (ahE ⟨k, sq, 0, []⟩) 33 #[.pointer (some ⟨w.heap.size, 0, none⟩), .pointer (some ⟨w.heap.size + 1, 0, none⟩)] Al _ cl xs w1 (enters_of Try.func33 (by kernel_rfl) rfl) HRL.out hcl (ahE_mono HUP.out _) ?_).mono ?_
    · intro v x wv hW hv
      exact bget1_any _ _ B m d sq v k x wv (hW.keeps _ _ _ CK1.out) (hW.keeps _ _ _ CS1.out) (HK.out.ext (X1.out.trans hW)) hmd hm47 hv
    rintro e w4 ⟨rfl, hw4⟩
    have X4 := Lib.hid (X1.out.trans hw4)
    have CR4 := Lib.hid (hw4.blk CR1.out)
    have CK4 := Lib.hid (hw4.keeps _ _ _ CK1.out)
    have HRL4 := Lib.hid (HRL.out.ext hw4)
    clear hw4
    obtain ⟨j, hj⟩ : ∃ j, j = (xs.takeWhile (ahE ⟨k, sq, 0, []⟩)).length := ⟨_, rfl⟩
    have hjn : j ≤ xs.length := by rw [hj]; exact (List.takeWhile_sublist _).length_le
    have hgb := gB_at xs k sq hj
    rw [← hj]
    have HGB := Lib.hid hgb
    clear hj hgb
    have hx2 : Ext w4 w4.drew := (by with_reducible (repeat (first | exact Ext.rfl_ _ | assumption | refine Ext.drew ?_ | refine Ext.drewN ?_ _ | refine Ext.alloc ?_ _ | refine Ext.trans ?_ (by assumption))))
    by_cases hje : j = xs.length
    · subst hje
      have hz : gB xs k sq = none := by rw [HGB.out, dif_neg (by omega)]
      have HZ := Lib.hid hz
      clear hz
      have d1 : ((xs.length : Int) == (xs.length : Int)) = true := by simp
      go_wp2
      refine wp_region_held_drew (S := (fun _ => True)) (by kernel_rfl) (by (try dsimp only); (all_goals trivial)) (fun hHeld => ?_)
      refine wpAnyH_take (i := 0) (oi := ({ dst := some 25, op := Go.Op.move (Go.Operand.tmp 11), type := 3, pos := "block.go:146", after := #[], guard := none } : Go.Oper)) (v := ?v1) rfl (by kernel_rfl) (by kernel_rfl) (by kernel_rfl) (fun _ _ _ h => h) (Or.inl ⟨by rfl, ?hy1⟩) (by assumption) ?rest1
      case hy1 => (intro w hSw; (try dsimp only at hSw); go_simp; (try with_reducible rfl))
      (try simp only [Act.put, List.getElem_toArray, List.getElem_cons_zero, List.getElem_cons_succ, List.setIfInBounds_toArray, List.set_cons_zero, List.set_cons_succ])
      refine wpAnyH_take (i := 1) (oi := ({ dst := some 26, op := Go.Op.move (Go.Operand.tmp 8), type := 37, pos := "block.go:146", after := #[], guard := none } : Go.Oper)) (v := ?v2) rfl (by kernel_rfl) (by kernel_rfl) (by kernel_rfl) (fun _ _ _ h => h) (Or.inl ⟨by rfl, ?hy2⟩) (by assumption) ?rest2
      case hy2 => (intro w hSw; (try dsimp only at hSw); go_simp; (try with_reducible rfl))
      (try simp only [Act.put, List.getElem_toArray, List.getElem_cons_zero, List.getElem_cons_succ, List.setIfInBounds_toArray, List.set_cons_zero, List.set_cons_succ])
      refine wpAnyH_take (i := 2) (oi := ({ dst := some 27, op := Go.Op.call { callee := Go.Callee.builtin Go.Builtin.len, args := #[Go.Operand.tmp 26], argTypes := #[37] }, type := 3, pos := "block.go:146", after := #[{ on := 1, ground := Go.Ground.data }], guard := none } : Go.Oper)) (v := ?v3) rfl (by kernel_rfl) (by kernel_rfl) (by kernel_rfl) (fun _ _ _ h => h) (Or.inl ⟨by rfl, ?hy3⟩) (by assumption) ?rest3
      case hy3 => (intro w hSw; (try dsimp only at hSw); go_simp; (try with_reducible rfl))
      (try simp only [Act.put, List.getElem_toArray, List.getElem_cons_zero, List.getElem_cons_succ, List.setIfInBounds_toArray, List.set_cons_zero, List.set_cons_succ])
      refine wpAnyH_take (i := 3) (oi := ({ dst := some 28, op := Go.Op.binOp Go.BinOp.eql 3 (Go.Operand.tmp 25) (Go.Operand.tmp 27) 3, type := 4, pos := "block.go:146", after := #[{ on := 0, ground := Go.Ground.data }, { on := 2, ground := Go.Ground.data }], guard := none } : Go.Oper)) (v := ?v4) rfl (by kernel_rfl) (by kernel_rfl) (by kernel_rfl) (fun _ _ _ h => h) (Or.inl ⟨by rfl, ?hy4⟩) (by assumption) ?rest4
      case hy4 => (intro w hSw; (try dsimp only at hSw); go_simp; (try with_reducible rfl))
      (try simp only [Act.put, List.getElem_toArray, List.getElem_cons_zero, List.getElem_cons_succ, List.setIfInBounds_toArray, List.set_cons_zero, List.set_cons_succ])
      refine wpAnyH_take (i := 4) (oi := ({ dst := some 29, op := Go.Op.move (Go.Operand.tmp 28), type := 4, pos := "block.go:146", after := #[{ on := 3, ground := Go.Ground.data }], guard := none } : Go.Oper)) (v := ?v5) rfl (by kernel_rfl) (by kernel_rfl) (by kernel_rfl) (fun _ _ _ h => h) (Or.inl ⟨by rfl, ?hy5⟩) (by assumption) ?rest5
      case hy5 => (intro w hSw; (try dsimp only at hSw); go_simp; (try with_reducible rfl))
      (try simp only [Act.put, List.getElem_toArray, List.getElem_cons_zero, List.getElem_cons_succ, List.setIfInBounds_toArray, List.set_cons_zero, List.set_cons_succ])
      refine wpAnyH_take (i := 5) (oi := ({ dst := some 30, op := Go.Op.move (Go.Operand.tmp 8), type := 37, pos := "block.go:146", after := #[{ on := 4, ground := Go.Ground.guard }], guard := some (4, false) } : Go.Oper)) (v := undef) rfl (by kernel_rfl) (by kernel_rfl) (by kernel_rfl) (fun _ _ _ h => h) (Or.inr ⟨by rfl, rfl⟩) (by assumption) ?_
      (try simp only [Act.put, List.getElem_toArray, List.getElem_cons_zero, List.getElem_cons_succ, List.setIfInBounds_toArray, List.set_cons_zero, List.set_cons_succ])
      refine wpAnyH_take (i := 6) (oi := ({ dst := some 31, op := Go.Op.move (Go.Operand.tmp 11), type := 3, pos := "block.go:146", after := #[{ on := 4, ground := Go.Ground.guard }], guard := some (4, false) } : Go.Oper)) (v := undef) rfl (by kernel_rfl) (by kernel_rfl) (by kernel_rfl) (fun _ _ _ h => h) (Or.inr ⟨by rfl, rfl⟩) (by assumption) ?_
      (try simp only [Act.put, List.getElem_toArray, List.getElem_cons_zero, List.getElem_cons_succ, List.setIfInBounds_toArray, List.set_cons_zero, List.set_cons_succ])
      refine wpAnyH_take (i := 7) (oi := ({ dst := some 32, op := Go.Op.indexAddr 37 (Go.Operand.tmp 30) (Go.Operand.tmp 31), type := 0, pos := "block.go:146", after := #[{ on := 5, ground := Go.Ground.data }, { on := 6, ground := Go.Ground.data }, { on := 4, ground := Go.Ground.guard }], guard := some (4, false) } : Go.Oper)) (v := undef) rfl (by kernel_rfl) (by kernel_rfl) (by kernel_rfl) (fun _ _ _ h => h) (Or.inr ⟨by rfl, rfl⟩) (by assumption) ?_
      (try simp only [Act.put, List.getElem_toArray, List.getElem_cons_zero, List.getElem_cons_succ, List.setIfInBounds_toArray, List.set_cons_zero, List.set_cons_succ])
      refine wpAnyH_take (i := 8) (oi := ({ dst := some 33, op := Go.Op.fieldAddr 28 (Go.Operand.tmp 32) 0, type := 0, pos := "block.go:146", after := #[{ on := 7, ground := Go.Ground.data }, { on := 4, ground := Go.Ground.guard }], guard := some (4, false) } : Go.Oper)) (v := undef) rfl (by kernel_rfl) (by kernel_rfl) (by kernel_rfl) (fun _ _ _ h => h) (Or.inr ⟨by rfl, rfl⟩) (by assumption) ?_
      (try simp only [Act.put, List.getElem_toArray, List.getElem_cons_zero, List.getElem_cons_succ, List.setIfInBounds_toArray, List.set_cons_zero, List.set_cons_succ])
      refine wpAnyH_take (i := 9) (oi := ({ dst := some 34, op := Go.Op.load 22 (Go.Operand.tmp 33), type := 22, pos := "block.go:146", after := #[{ on := 8, ground := Go.Ground.data }, { on := 4, ground := Go.Ground.guard }], guard := some (4, false) } : Go.Oper)) (v := undef) rfl (by kernel_rfl) (by kernel_rfl) (by kernel_rfl) (fun _ _ _ h => h) (Or.inr ⟨by rfl, rfl⟩) (by assumption) ?_
      (try simp only [Act.put, List.getElem_toArray, List.getElem_cons_zero, List.getElem_cons_succ, List.setIfInBounds_toArray, List.set_cons_zero, List.set_cons_succ])
      refine wpAnyH_take (i := 10) (oi := ({ dst := some 35, op := Go.Op.load 22 (Go.Operand.tmp 4), type := 22, pos := "block.go:146", after := #[{ on := 4, ground := Go.Ground.guard }], guard := some (4, false) } : Go.Oper)) (v := undef) rfl (by kernel_rfl) (by kernel_rfl) (by kernel_rfl) (fun _ _ _ h => h) (Or.inr ⟨by rfl, rfl⟩) (by assumption) ?_
      (try simp only [Act.put, List.getElem_toArray, List.getElem_cons_zero, List.getElem_cons_succ, List.setIfInBounds_toArray, List.set_cons_zero, List.set_cons_succ])
      refine wpAnyH_take (i := 11) (oi := ({ dst := some 36, op := Go.Op.call { callee := Go.Callee.value (Go.Operand.func 35), args := #[Go.Operand.tmp 34, Go.Operand.tmp 35], argTypes := #[22, 22] }, type := 4, pos := "block.go:146", after := #[{ on := 9, ground := Go.Ground.data }, { on := 10, ground := Go.Ground.data }, { on := 4, ground := Go.Ground.chain }, { on := 4, ground := Go.Ground.guard }], guard := some (4, false) } : Go.Oper)) (v := undef) rfl (by kernel_rfl) (by kernel_rfl) (by kernel_rfl) (fun _ _ _ h => h) (Or.inr ⟨by rfl, rfl⟩) (by assumption) ?_
      (try simp only [Act.put, List.getElem_toArray, List.getElem_cons_zero, List.getElem_cons_succ, List.setIfInBounds_toArray, List.set_cons_zero, List.set_cons_succ])
      refine wpAnyH_take (i := 12) (oi := ({ dst := some 37, op := Go.Op.unOp Go.UnOp.not 4 (Go.Operand.tmp 36), type := 4, pos := "block.go:146", after := #[{ on := 11, ground := Go.Ground.data }, { on := 4, ground := Go.Ground.guard }], guard := some (4, false) } : Go.Oper)) (v := undef) rfl (by kernel_rfl) (by kernel_rfl) (by kernel_rfl) (fun _ _ _ h => h) (Or.inr ⟨by rfl, rfl⟩) (by assumption) ?_
      (try simp only [Act.put, List.getElem_toArray, List.getElem_cons_zero, List.getElem_cons_succ, List.setIfInBounds_toArray, List.set_cons_zero, List.set_cons_succ])
      refine wpAnyH_take (i := 13) (oi := ({ dst := some 38, op := Go.Op.pick (Go.Operand.tmp 29) (Go.Operand.const (Go.Value.bool true)) (Go.Operand.tmp 37), type := 4, pos := "block.go:146", after := #[{ on := 4, ground := Go.Ground.data }, { on := 12, ground := Go.Ground.data }], guard := none } : Go.Oper)) (v := ?v6) rfl (by kernel_rfl) (by kernel_rfl) (by kernel_rfl) (fun _ _ _ h => h) (Or.inl ⟨by rfl, ?hy6⟩) (by assumption) ?rest6
      case hy6 => (intro w hSw; (try dsimp only at hSw); go_simp; (try with_reducible rfl))
      (try simp only [Act.put, List.getElem_toArray, List.getElem_cons_zero, List.getElem_cons_succ, List.setIfInBounds_toArray, List.set_cons_zero, List.set_cons_succ])
      refine wpAnyH_done (by kernel_rfl) ?_ _
      all_goals
        obtain ⟨r0, r1, r2, r3, f0, f1, f2, f3⟩ := box4 CR4.out (Ext.rfl_ _)
        go_wp2
        refine bodyPost_ret (v := .tuple #[.agg #[.slice none 0 0, .int .i64 0, .int .i64 0, .slice none 0 0], .int .i64 6]) (by simp [results, Try.f13, go_sem, r0, r1, r2, r3]) rfl ?_
        rw [HGE.out, HGN.out, HZ.out]
        exact ⟨⟨_, rfl, (FrE.zero _ 0).rd⟩, (((((X4.out.setCell (p := ⟨w.heap.size + 1 + 1, 0, none⟩) (by simp; omega) _).setCell (p := ⟨w.heap.size + 1 + 1, 1, none⟩) (by simp; omega) _).setCell (p := ⟨w.heap.size + 1 + 1, 2, none⟩) (by simp; omega) _).setCell (p := ⟨w.heap.size + 1 + 1, 3, none⟩) (by simp; omega) _).drew)⟩
    · have hlt : j < xs.length := by omega
      have hlti : (j : Int) < (xs.length : Int) := by omega
      have d1 : ((j : Int) == (xs.length : Int)) = false := by rw [beq_eq_false_iff_ne]; omega
      have hjc : j < cl := by omega
      have hcli : (xs.length : Int) ≤ (cl : Int) := by omega
      obtain ⟨g, rfl⟩ : ∃ g, Al = some ⟨g, 0, none⟩ := by
        rcases hAl with rfl | h
        · obtain ⟨_, _, h, _⟩ := HRL.out.2.2 (by omega); cases h
        · exact h
      obtain ⟨A1, n1, c1, A2, n2, c2, hx, e0, e1, e2, e3, hry⟩ := r6at HRL4.out hlt (Ext.rfl_ _)
      obtain ⟨_, _, _, _, _, _, hv, hr1, _⟩ := id hry
      cases hv
      have HR1 := Lib.hid hr1
      have HRY := Lib.hid hry
      have hg2 : gB xs k sq = if xs[j].key = k then some xs[j] else none := by rw [HGB.out, dif_pos hlt]
      clear hr1 hry
      have CKc := CK4.out
      rw [Nat.zero_add] at e0 e1 e2 e3
      by_cases hkk : xs[j].key = k
      · rw [if_pos hkk] at hg2
        have HG2 := Lib.hid hg2
        clear hg2
        have dk : decide (xs[j].key = k) = true := decide_eq_true hkk
        go_wp2
        refine wp_region_held_drew (S := (fun w' => w'.cell? ⟨g, j * 4, none⟩ = some (.slice A1 n1 c1) ∧ w'.cell? ⟨w.heap.size, 0, none⟩ = some (.slice B m d))) (by kernel_rfl) (by (try dsimp only); exact ⟨e0, CKc⟩) (fun hHeld => ?_)
        refine wpAnyH_take (i := 0) (oi := ({ dst := some 25, op := Go.Op.move (Go.Operand.tmp 11), type := 3, pos := "block.go:146", after := #[], guard := none } : Go.Oper)) (v := ?v7) rfl (by kernel_rfl) (by kernel_rfl) (by kernel_rfl) (fun _ _ _ h => h) (Or.inl ⟨by rfl, ?hy7⟩) (by assumption) ?rest7
        case hy7 => (intro w hSw; (try dsimp only at hSw); go_simp; (try with_reducible rfl))
        (try simp only [Act.put, List.getElem_toArray, List.getElem_cons_zero, List.getElem_cons_succ, List.setIfInBounds_toArray, List.set_cons_zero, List.set_cons_succ])
        refine wpAnyH_take (i := 1) (oi := ({ dst := some 26, op := Go.Op.move (Go.Operand.tmp 8), type := 37, pos := "block.go:146", after := #[], guard := none } : Go.Oper)) (v := ?v8) rfl (by kernel_rfl) (by kernel_rfl) (by kernel_rfl) (fun _ _ _ h => h) (Or.inl ⟨by rfl, ?hy8⟩) (by assumption) ?rest8
        case hy8 => (intro w hSw; (try dsimp only at hSw); go_simp; (try with_reducible rfl))
        (try simp only [Act.put, List.getElem_toArray, List.getElem_cons_zero, List.getElem_cons_succ, List.setIfInBounds_toArray, List.set_cons_zero, List.set_cons_succ])
        refine wpAnyH_take (i := 2) (oi := ({ dst := some 27, op := Go.Op.call { callee := Go.Callee.builtin Go.Builtin.len, args := #[Go.Operand.tmp 26], argTypes := #[37] }, type := 3, pos := "block.go:146", after := #[{ on := 1, ground := Go.Ground.data }], guard := none } : Go.Oper)) (v := ?v9) rfl (by kernel_rfl) (by kernel_rfl) (by kernel_rfl) (fun _ _ _ h => h) (Or.inl ⟨by rfl, ?hy9⟩) (by assumption) ?rest9
        case hy9 => (intro w hSw; (try dsimp only at hSw); go_simp; (try with_reducible rfl))
        (try simp only [Act.put, List.getElem_toArray, List.getElem_cons_zero, List.getElem_cons_succ, List.setIfInBounds_toArray, List.set_cons_zero, List.set_cons_succ])
        refine wpAnyH_take (i := 3) (oi := ({ dst := some 28, op := Go.Op.binOp Go.BinOp.eql 3 (Go.Operand.tmp 25) (Go.Operand.tmp 27) 3, type := 4, pos := "block.go:146", after := #[{ on := 0, ground := Go.Ground.data }, { on := 2, ground := Go.Ground.data }], guard := none } : Go.Oper)) (v := ?v10) rfl (by kernel_rfl) (by kernel_rfl) (by kernel_rfl) (fun _ _ _ h => h) (Or.inl ⟨by rfl, ?hy10⟩) (by assumption) ?rest10
        case hy10 => (intro w hSw; (try dsimp only at hSw); go_simp; (try with_reducible rfl))
        (try simp only [Act.put, List.getElem_toArray, List.getElem_cons_zero, List.getElem_cons_succ, List.setIfInBounds_toArray, List.set_cons_zero, List.set_cons_succ])
        refine wpAnyH_take (i := 4) (oi := ({ dst := some 29, op := Go.Op.move (Go.Operand.tmp 28), type := 4, pos := "block.go:146", after := #[{ on := 3, ground := Go.Ground.data }], guard := none } : Go.Oper)) (v := ?v11) rfl (by kernel_rfl) (by kernel_rfl) (by kernel_rfl) (fun _ _ _ h => h) (Or.inl ⟨by rfl, ?hy11⟩) (by assumption) ?rest11
        case hy11 => (intro w hSw; (try dsimp only at hSw); go_simp; (try with_reducible rfl))
        (try simp only [Act.put, List.getElem_toArray, List.getElem_cons_zero, List.getElem_cons_succ, List.setIfInBounds_toArray, List.set_cons_zero, List.set_cons_succ])
        refine wpAnyH_take (i := 5) (oi := ({ dst := some 30, op := Go.Op.move (Go.Operand.tmp 8), type := 37, pos := "block.go:146", after := #[{ on := 4, ground := Go.Ground.guard }], guard := some (4, false) } : Go.Oper)) (v := ?v12) rfl (by kernel_rfl) (by kernel_rfl) (by kernel_rfl) (fun _ _ _ h => h) (Or.inl ⟨by rfl, ?hy12⟩) (by assumption) ?rest12
        case hy12 => (intro w hSw; (try dsimp only at hSw); go_simp; (try with_reducible rfl))
        (try simp only [Act.put, List.getElem_toArray, List.getElem_cons_zero, List.getElem_cons_succ, List.setIfInBounds_toArray, List.set_cons_zero, List.set_cons_succ])
        refine wpAnyH_take (i := 6) (oi := ({ dst := some 31, op := Go.Op.move (Go.Operand.tmp 11), type := 3, pos := "block.go:146", after := #[{ on := 4, ground := Go.Ground.guard }], guard := some (4, false) } : Go.Oper)) (v := ?v13) rfl (by kernel_rfl) (by kernel_rfl) (by kernel_rfl) (fun _ _ _ h => h) (Or.inl ⟨by rfl, ?hy13⟩) (by assumption) ?rest13
        case hy13 => (intro w hSw; (try dsimp only at hSw); go_simp; (try with_reducible rfl))
        (try simp only [Act.put, List.getElem_toArray, List.getElem_cons_zero, List.getElem_cons_succ, List.setIfInBounds_toArray, List.set_cons_zero, List.set_cons_succ])
        refine wpAnyH_take (i := 7) (oi := ({ dst := some 32, op := Go.Op.indexAddr 37 (Go.Operand.tmp 30) (Go.Operand.tmp 31), type := 0, pos := "block.go:146", after := #[{ on := 5, ground := Go.Ground.data }, { on := 6, ground := Go.Ground.data }, { on := 4, ground := Go.Ground.guard }], guard := some (4, false) } : Go.Oper)) (v := ?v14) rfl (by kernel_rfl) (by kernel_rfl) (by kernel_rfl) (fun _ _ _ h => h) (Or.inl ⟨by rfl, ?hy14⟩) (by assumption) ?rest14
        case hy14 => (intro w hSw; (try dsimp only at hSw); go_simp; (try with_reducible rfl))
        (try simp only [Act.put, List.getElem_toArray, List.getElem_cons_zero, List.getElem_cons_succ, List.setIfInBounds_toArray, List.set_cons_zero, List.set_cons_succ])
        refine wpAnyH_take (i := 8) (oi := ({ dst := some 33, op := Go.Op.fieldAddr 28 (Go.Operand.tmp 32) 0, type := 0, pos := "block.go:146", after := #[{ on := 7, ground := Go.Ground.data }, { on := 4, ground := Go.Ground.guard }], guard := some (4, false) } : Go.Oper)) (v := ?v15) rfl (by kernel_rfl) (by kernel_rfl) (by kernel_rfl) (fun _ _ _ h => h) (Or.inl ⟨by rfl, ?hy15⟩) (by assumption) ?rest15
        case hy15 => (intro w hSw; (try dsimp only at hSw); go_simp; (try with_reducible rfl))
        (try simp only [Act.put, List.getElem_toArray, List.getElem_cons_zero, List.getElem_cons_succ, List.setIfInBounds_toArray, List.set_cons_zero, List.set_cons_succ])
        refine wpAnyH_take (i := 9) (oi := ({ dst := some 34, op := Go.Op.load 22 (Go.Operand.tmp 33), type := 22, pos := "block.go:146", after := #[{ on := 8, ground := Go.Ground.data }, { on := 4, ground := Go.Ground.guard }], guard := some (4, false) } : Go.Oper)) (v := ?v16) rfl (by kernel_rfl) (by kernel_rfl) (by kernel_rfl) (fun _ _ _ h => h) (Or.inl ⟨by rfl, ?hy16⟩) (by assumption) ?rest16
        case hy16 => (intro w hSw; (try dsimp only at hSw); go_simp; (try with_reducible rfl))
        (try simp only [Act.put, List.getElem_toArray, List.getElem_cons_zero, List.getElem_cons_succ, List.setIfInBounds_toArray, List.set_cons_zero, List.set_cons_succ])
        refine wpAnyH_take (i := 10) (oi := ({ dst := some 35, op := Go.Op.load 22 (Go.Operand.tmp 4), type := 22, pos := "block.go:146", after := #[{ on := 4, ground := Go.Ground.guard }], guard := some (4, false) } : Go.Oper)) (v := ?v17) rfl (by kernel_rfl) (by kernel_rfl) (by kernel_rfl) (fun _ _ _ h => h) (Or.inl ⟨by rfl, ?hy17⟩) (by assumption) ?rest17
        case hy17 => (intro w hSw; (try dsimp only at hSw); go_simp; (try with_reducible rfl))
        (try simp only [Act.put, List.getElem_toArray, List.getElem_cons_zero, List.getElem_cons_succ, List.setIfInBounds_toArray, List.set_cons_zero, List.set_cons_succ])
        refine wpAnyH_ready (rs := [11]) (by kernel_rfl) (by simp) ?_
        refine AllReadyH.cons (o := ({ dst := some 36, op := Go.Op.call { callee := Go.Callee.value (Go.Operand.func 35), args := #[Go.Operand.tmp 34, Go.Operand.tmp 35], argTypes := #[22, 22] }, type := 4, pos := "block.go:146", after := #[{ on := 9, ground := Go.Ground.data }, { on := 10, ground := Go.Ground.data }, { on := 4, ground := Go.Ground.chain }, { on := 4, ground := Go.Ground.guard }], guard := some (4, false) } : Go.Oper)) rfl (fun K hK => ?_) AllReadyH.nil
        go_simp
        refine (bequal_any _ _ _ _ _ _ _ _ _ (HR1.out.ext (by with_reducible (repeat (first | exact Ext.rfl_ _ | assumption | refine Ext.drew ?_ | refine Ext.drewN ?_ _ | refine Ext.alloc ?_ _ | refine Ext.trans ?_ (by assumption))))) (HK.out.ext (X4.out.trans (by with_reducible (repeat (first | exact Ext.rfl_ _ | assumption | refine Ext.drew ?_ | refine Ext.drewN ?_ _ | refine Ext.alloc ?_ _ | refine Ext.trans ?_ (by assumption))))))).mono ?_; rintro e w5 ⟨rfl, rfl⟩; rw [dk]
        (try (go_wp2_with fail))
        refine hK.out _ _ (by (try dsimp only); exact ⟨e0, CKc⟩) (fun hHeld => ?_)
        clear hK K
        (try simp only [Act.put, List.getElem_toArray, List.getElem_cons_zero, List.getElem_cons_succ, List.setIfInBounds_toArray, List.set_cons_zero, List.set_cons_succ])
        refine wpAnyH_take (i := 12) (oi := ({ dst := some 37, op := Go.Op.unOp Go.UnOp.not 4 (Go.Operand.tmp 36), type := 4, pos := "block.go:146", after := #[{ on := 11, ground := Go.Ground.data }, { on := 4, ground := Go.Ground.guard }], guard := some (4, false) } : Go.Oper)) (v := ?v18) rfl (by kernel_rfl) (by kernel_rfl) (by kernel_rfl) (fun _ _ _ h => h) (Or.inl ⟨by rfl, ?hy18⟩) (by assumption) ?rest18
        case hy18 => (intro w hSw; (try dsimp only at hSw); go_simp; (try with_reducible rfl))
        (try simp only [Act.put, List.getElem_toArray, List.getElem_cons_zero, List.getElem_cons_succ, List.setIfInBounds_toArray, List.set_cons_zero, List.set_cons_succ])
        refine wpAnyH_take (i := 13) (oi := ({ dst := some 38, op := Go.Op.pick (Go.Operand.tmp 29) (Go.Operand.const (Go.Value.bool true)) (Go.Operand.tmp 37), type := 4, pos := "block.go:146", after := #[{ on := 4, ground := Go.Ground.data }, { on := 12, ground := Go.Ground.data }], guard := none } : Go.Oper)) (v := ?v19) rfl (by kernel_rfl) (by kernel_rfl) (by kernel_rfl) (fun _ _ _ h => h) (Or.inl ⟨by rfl, ?hy19⟩) (by assumption) ?rest19
        case hy19 => (intro w hSw; (try dsimp only at hSw); go_simp; (try with_reducible rfl))
        (try simp only [Act.put, List.getElem_toArray, List.getElem_cons_zero, List.getElem_cons_succ, List.setIfInBounds_toArray, List.set_cons_zero, List.set_cons_succ])
        refine wpAnyH_done (by kernel_rfl) ?_ _
        all_goals
          obtain ⟨r0, r1, r2, r3, f0, f1, f2, f3⟩ := box4 CR4.out (Ext.rfl_ _)
          go_wp2
          refine bodyPost_ret (v := .tuple #[.agg #[.slice A1 n1 c1, .int .i64 xs[j].seq, .int .i64 xs[j].kind, .slice A2 n2 c2], .int .i64 0]) (by simp [results, Try.f13, go_sem, r0, r1, r2, r3]) rfl ?_
          rw [HGE.out, HGN.out, HG2.out]
          exact ⟨⟨_, rfl, (rdE_set4 HRY.out CR4.out).ext ((Ext.rfl_ _).drew)⟩, (((((X4.out.setCell (p := ⟨w.heap.size + 1 + 1, 0, none⟩) (by simp; omega) _).setCell (p := ⟨w.heap.size + 1 + 1, 1, none⟩) (by simp; omega) _).setCell (p := ⟨w.heap.size + 1 + 1, 2, none⟩) (by simp; omega) _).setCell (p := ⟨w.heap.size + 1 + 1, 3, none⟩) (by simp; omega) _).drew)⟩
      · rw [if_neg hkk] at hg2
        have HG2 := Lib.hid hg2
        clear hg2
        have dk : decide (xs[j].key = k) = false := decide_eq_false hkk
        go_wp2
        refine wp_region_held_drew (S := (fun w' => w'.cell? ⟨g, j * 4, none⟩ = some (.slice A1 n1 c1) ∧ w'.cell? ⟨w.heap.size, 0, none⟩ = some (.slice B m d))) (by kernel_rfl) (by (try dsimp only); exact ⟨e0, CKc⟩) (fun hHeld => ?_)
        refine wpAnyH_take (i := 0) (oi := ({ dst := some 25, op := Go.Op.move (Go.Operand.tmp 11), type := 3, pos := "block.go:146", after := #[], guard := none } : Go.Oper)) (v := ?v20) rfl (by kernel_rfl) (by kernel_rfl) (by kernel_rfl) (fun _ _ _ h => h) (Or.inl ⟨by rfl, ?hy20⟩) (by assumption) ?rest20
        case hy20 => (intro w hSw; (try dsimp only at hSw); go_simp; (try with_reducible rfl))
        (try simp only [Act.put, List.getElem_toArray, List.getElem_cons_zero, List.getElem_cons_succ, List.setIfInBounds_toArray, List.set_cons_zero, List.set_cons_succ])
        refine wpAnyH_take (i := 1) (oi := ({ dst := some 26, op := Go.Op.move (Go.Operand.tmp 8), type := 37, pos := "block.go:146", after := #[], guard := none } : Go.Oper)) (v := ?v21) rfl (by kernel_rfl) (by kernel_rfl) (by kernel_rfl) (fun _ _ _ h => h) (Or.inl ⟨by rfl, ?hy21⟩) (by assumption) ?rest21
        case hy21 => (intro w hSw; (try dsimp only at hSw); go_simp; (try with_reducible rfl))
        (try simp only [Act.put, List.getElem_toArray, List.getElem_cons_zero, List.getElem_cons_succ, List.setIfInBounds_toArray, List.set_cons_zero, List.set_cons_succ])
        refine wpAnyH_take (i := 2) (oi := ({ dst := some 27, op := Go.Op.call { callee := Go.Callee.builtin Go.Builtin.len, args := #[Go.Operand.tmp 26], argTypes := #[37] }, type := 3, pos := "block.go:146", after := #[{ on := 1, ground := Go.Ground.data }], guard := none } : Go.Oper)) (v := ?v22) rfl (by kernel_rfl) (by kernel_rfl) (by kernel_rfl) (fun _ _ _ h => h) (Or.inl ⟨by rfl, ?hy22⟩) (by assumption) ?rest22
        case hy22 => (intro w hSw; (try dsimp only at hSw); go_simp; (try with_reducible rfl))
        (try simp only [Act.put, List.getElem_toArray, List.getElem_cons_zero, List.getElem_cons_succ, List.setIfInBounds_toArray, List.set_cons_zero, List.set_cons_succ])
        refine wpAnyH_take (i := 3) (oi := ({ dst := some 28, op := Go.Op.binOp Go.BinOp.eql 3 (Go.Operand.tmp 25) (Go.Operand.tmp 27) 3, type := 4, pos := "block.go:146", after := #[{ on := 0, ground := Go.Ground.data }, { on := 2, ground := Go.Ground.data }], guard := none } : Go.Oper)) (v := ?v23) rfl (by kernel_rfl) (by kernel_rfl) (by kernel_rfl) (fun _ _ _ h => h) (Or.inl ⟨by rfl, ?hy23⟩) (by assumption) ?rest23
        case hy23 => (intro w hSw; (try dsimp only at hSw); go_simp; (try with_reducible rfl))
        (try simp only [Act.put, List.getElem_toArray, List.getElem_cons_zero, List.getElem_cons_succ, List.setIfInBounds_toArray, List.set_cons_zero, List.set_cons_succ])
        refine wpAnyH_take (i := 4) (oi := ({ dst := some 29, op := Go.Op.move (Go.Operand.tmp 28), type := 4, pos := "block.go:146", after := #[{ on := 3, ground := Go.Ground.data }], guard := none } : Go.Oper)) (v := ?v24) rfl (by kernel_rfl) (by kernel_rfl) (by kernel_rfl) (fun _ _ _ h => h) (Or.inl ⟨by rfl, ?hy24⟩) (by assumption) ?rest24
        case hy24 => (intro w hSw; (try dsimp only at hSw); go_simp; (try with_reducible rfl))
        (try simp only [Act.put, List.getElem_toArray, List.getElem_cons_zero, List.getElem_cons_succ, List.setIfInBounds_toArray, List.set_cons_zero, List.set_cons_succ])
        refine wpAnyH_take (i := 5) (oi := ({ dst := some 30, op := Go.Op.move (Go.Operand.tmp 8), type := 37, pos := "block.go:146", after := #[{ on := 4, ground := Go.Ground.guard }], guard := some (4, false) } : Go.Oper)) (v := ?v25) rfl (by kernel_rfl) (by kernel_rfl) (by kernel_rfl) (fun _ _ _ h => h) (Or.inl ⟨by rfl, ?hy25⟩) (by assumption) ?rest25
        case hy25 => (intro w hSw; (try dsimp only at hSw); go_simp; (try with_reducible rfl))
        (try simp only [Act.put, List.getElem_toArray, List.getElem_cons_zero, List.getElem_cons_succ, List.setIfInBounds_toArray, List.set_cons_zero, List.set_cons_succ])
        refine wpAnyH_take (i := 6) (oi := ({ dst := some 31, op := Go.Op.move (Go.Operand.tmp 11), type := 3, pos := "block.go:146", after := #[{ on := 4, ground := Go.Ground.guard }], guard := some (4, false) } : Go.Oper)) (v := ?v26) rfl (by kernel_rfl) (by kernel_rfl) (by kernel_rfl) (fun _ _ _ h => h) (Or.inl ⟨by rfl, ?hy26⟩) (by assumption) ?rest26
        case hy26 => (intro w hSw; (try dsimp only at hSw); go_simp; (try with_reducible rfl))
        (try simp only [Act.put, List.getElem_toArray, List.getElem_cons_zero, List.getElem_cons_succ, List.setIfInBounds_toArray, List.set_cons_zero, List.set_cons_succ])
        refine wpAnyH_take (i := 7) (oi := ({ dst := some 32, op := Go.Op.indexAddr 37 (Go.Operand.tmp 30) (Go.Operand.tmp 31), type := 0, pos := "block.go:146", after := #[{ on := 5, ground := Go.Ground.data }, { on := 6, ground := Go.Ground.data }, { on := 4, ground := Go.Ground.guard }], guard := some (4, false) } : Go.Oper)) (v := ?v27) rfl (by kernel_rfl) (by kernel_rfl) (by kernel_rfl) (fun _ _ _ h => h) (Or.inl ⟨by rfl, ?hy27⟩) (by assumption) ?rest27
        case hy27 => (intro w hSw; (try dsimp only at hSw); go_simp; (try with_reducible rfl))
        (try simp only [Act.put, List.getElem_toArray, List.getElem_cons_zero, List.getElem_cons_succ, List.setIfInBounds_toArray, List.set_cons_zero, List.set_cons_succ])
        refine wpAnyH_take (i := 8) (oi := ({ dst := some 33, op := Go.Op.fieldAddr 28 (Go.Operand.tmp 32) 0, type := 0, pos := "block.go:146", after := #[{ on := 7, ground := Go.Ground.data }, { on := 4, ground := Go.Ground.guard }], guard := some (4, false) } : Go.Oper)) (v := ?v28) rfl (by kernel_rfl) (by kernel_rfl) (by kernel_rfl) (fun _ _ _ h => h) (Or.inl ⟨by rfl, ?hy28⟩) (by assumption) ?rest28
        case hy28 => (intro w hSw; (try dsimp only at hSw); go_simp; (try with_reducible rfl))
        (try simp only [Act.put, List.getElem_toArray, List.getElem_cons_zero, List.getElem_cons_succ, List.setIfInBounds_toArray, List.set_cons_zero, List.set_cons_succ])
        refine wpAnyH_take (i := 9) (oi := ({ dst := some 34, op := Go.Op.load 22 (Go.Operand.tmp 33), type := 22, pos := "block.go:146", after := #[{ on := 8, ground := Go.Ground.data }, { on := 4, ground := Go.Ground.guard }], guard := some (4, false) } : Go.Oper)) (v := ?v29) rfl (by kernel_rfl) (by kernel_rfl) (by kernel_rfl) (fun _ _ _ h => h) (Or.inl ⟨by rfl, ?hy29⟩) (by assumption) ?rest29
        case hy29 => (intro w hSw; (try dsimp only at hSw); go_simp; (try with_reducible rfl))
        (try simp only [Act.put, List.getElem_toArray, List.getElem_cons_zero, List.getElem_cons_succ, List.setIfInBounds_toArray, List.set_cons_zero, List.set_cons_succ])
        refine wpAnyH_take (i := 10) (oi := ({ dst := some 35, op := Go.Op.load 22 (Go.Operand.tmp 4), type := 22, pos := "block.go:146", after := #[{ on := 4, ground := Go.Ground.guard }], guard := some (4, false) } : Go.Oper)) (v := ?v30) rfl (by kernel_rfl) (by kernel_rfl) (by kernel_rfl) (fun _ _ _ h => h) (Or.inl ⟨by rfl, ?hy30⟩) (by assumption) ?rest30
        case hy30 => (intro w hSw; (try dsimp only at hSw); go_simp; (try with_reducible rfl))
        (try simp only [Act.put, List.getElem_toArray, List.getElem_cons_zero, List.getElem_cons_succ, List.setIfInBounds_toArray, List.set_cons_zero, List.set_cons_succ])
        refine wpAnyH_ready (rs := [11]) (by kernel_rfl) (by simp) ?_
        refine AllReadyH.cons (o := ({ dst := some 36, op := Go.Op.call { callee := Go.Callee.value (Go.Operand.func 35), args := #[Go.Operand.tmp 34, Go.Operand.tmp 35], argTypes := #[22, 22] }, type := 4, pos := "block.go:146", after := #[{ on := 9, ground := Go.Ground.data }, { on := 10, ground := Go.Ground.data }, { on := 4, ground := Go.Ground.chain }, { on := 4, ground := Go.Ground.guard }], guard := some (4, false) } : Go.Oper)) rfl (fun K hK => ?_) AllReadyH.nil
        go_simp
        refine (bequal_any _ _ _ _ _ _ _ _ _ (HR1.out.ext (by with_reducible (repeat (first | exact Ext.rfl_ _ | assumption | refine Ext.drew ?_ | refine Ext.drewN ?_ _ | refine Ext.alloc ?_ _ | refine Ext.trans ?_ (by assumption))))) (HK.out.ext (X4.out.trans (by with_reducible (repeat (first | exact Ext.rfl_ _ | assumption | refine Ext.drew ?_ | refine Ext.drewN ?_ _ | refine Ext.alloc ?_ _ | refine Ext.trans ?_ (by assumption))))))).mono ?_; rintro e w5 ⟨rfl, rfl⟩; rw [dk]
        (try (go_wp2_with fail))
        refine hK.out _ _ (by (try dsimp only); exact ⟨e0, CKc⟩) (fun hHeld => ?_)
        clear hK K
        (try simp only [Act.put, List.getElem_toArray, List.getElem_cons_zero, List.getElem_cons_succ, List.setIfInBounds_toArray, List.set_cons_zero, List.set_cons_succ])
        refine wpAnyH_take (i := 12) (oi := ({ dst := some 37, op := Go.Op.unOp Go.UnOp.not 4 (Go.Operand.tmp 36), type := 4, pos := "block.go:146", after := #[{ on := 11, ground := Go.Ground.data }, { on := 4, ground := Go.Ground.guard }], guard := some (4, false) } : Go.Oper)) (v := ?v31) rfl (by kernel_rfl) (by kernel_rfl) (by kernel_rfl) (fun _ _ _ h => h) (Or.inl ⟨by rfl, ?hy31⟩) (by assumption) ?rest31
        case hy31 => (intro w hSw; (try dsimp only at hSw); go_simp; (try with_reducible rfl))
        (try simp only [Act.put, List.getElem_toArray, List.getElem_cons_zero, List.getElem_cons_succ, List.setIfInBounds_toArray, List.set_cons_zero, List.set_cons_succ])
        refine wpAnyH_take (i := 13) (oi := ({ dst := some 38, op := Go.Op.pick (Go.Operand.tmp 29) (Go.Operand.const (Go.Value.bool true)) (Go.Operand.tmp 37), type := 4, pos := "block.go:146", after := #[{ on := 4, ground := Go.Ground.data }, { on := 12, ground := Go.Ground.data }], guard := none } : Go.Oper)) (v := ?v32) rfl (by kernel_rfl) (by kernel_rfl) (by kernel_rfl) (fun _ _ _ h => h) (Or.inl ⟨by rfl, ?hy32⟩) (by assumption) ?rest32
        case hy32 => (intro w hSw; (try dsimp only at hSw); go_simp; (try with_reducible rfl))
        (try simp only [Act.put, List.getElem_toArray, List.getElem_cons_zero, List.getElem_cons_succ, List.setIfInBounds_toArray, List.set_cons_zero, List.set_cons_succ])
        refine wpAnyH_done (by kernel_rfl) ?_ _
        all_goals
          obtain ⟨r0, r1, r2, r3, f0, f1, f2, f3⟩ := box4 CR4.out (Ext.rfl_ _)
          go_wp2
          refine bodyPost_ret (v := .tuple #[.agg #[.slice none 0 0, .int .i64 0, .int .i64 0, .slice none 0 0], .int .i64 6]) (by simp [results, Try.f13, go_sem, r0, r1, r2, r3]) rfl ?_
          rw [HGE.out, HGN.out, HG2.out]
          exact ⟨⟨_, rfl, (FrE.zero _ 0).rd⟩, (((((X4.out.setCell (p := ⟨w.heap.size + 1 + 1, 0, none⟩) (by simp; omega) _).setCell (p := ⟨w.heap.size + 1 + 1, 1, none⟩) (by simp; omega) _).setCell (p := ⟨w.heap.size + 1 + 1, 2, none⟩) (by simp; omega) _).setCell (p := ⟨w.heap.size + 1 + 1, 3, none⟩) (by simp; omega) _).drew)⟩
  · have hop4 : opN b = 4 := by unfold opN at *; split at hop <;> simp_all
    have hE : opE b = [] := by
      unfold opN at hop4
      unfold opE
      cases h : blkR b with
      | none => rfl
      | some l => rw [h] at hop4; simp at hop4
    have hbE : bgE b k sq = ent0 := by unfold bgE; rw [hE]; rfl
    have hbN : bgN b k sq = 4 := by unfold bgN; rw [if_neg hop]
    rw [hop4]
    have HBE := Lib.hid hbE
    have HBN := Lib.hid hbN
    clear hbE hbN
    obtain ⟨r0, r1, r2, r3, f0, f1, f2, f3⟩ := box4 CR1.out (Ext.rfl_ _)
    go_wp2
    refine bodyPost_ret (v := .tuple #[.agg #[.slice none 0 0, .int .i64 0, .int .i64 0, .slice none 0 0], .int .i64 4]) (by simp [results, Try.f13, go_sem, r0, r1, r2, r3]) rfl ?_
    rw [HBE.out, HBN.out]
    exact ⟨⟨_, rfl, (FrE.zero _ 0).rd⟩, ((((X1.out.setCell (p := ⟨w.heap.size + 1 + 1, 0, none⟩) (by simp; omega) _).setCell (p := ⟨w.heap.size + 1 + 1, 1, none⟩) (by simp; omega) _).setCell (p := ⟨w.heap.size + 1 + 1, 2, none⟩) (by simp; omega) _).setCell (p := ⟨w.heap.size + 1 + 1, 3, none⟩) (by simp; omega) _)⟩
end Go.Proofs.Ythfhococglbpoaa
