/- The tables that are dropped: the closure of Do, slices.IndexFunc and DeleteFunc. Conditions: the list is the call's own. -/
import Derived.Test.YteooaplimiifiaaGreatEdOwn
import Derived.Test.YteooaplimiifiaaGreatSetM
namespace Go.Proofs.YteooaplimiifiaaGreat
set_option linter.unusedSimpArgs false
set_option linter.unusedVariables false
set_option maxRecDepth 100000
open Go.RowKit

set_option maxRecDepth 100000 in
set_option maxHeartbeats 2000000 in
theorem drop_any (v : Value) (t : Tab) (q b : Nat) (S : List Int) (w : World) (hv : RdT w v t) (hq : w.cell? ⟨q, 0, none⟩ = some (.map (some b))) (hS : SetM w b S) :
    Calls Tryz.prog 19 #[v, .pointer (some ⟨q, 0, none⟩)] w fun e w' => e = .returned (.bool (decide (t.num ∈ S))) ∧ Ext w w' := by
  obtain ⟨A, n, c, A', n', c', rfl, _, _, _, _, _, _, hI, _⟩ := hv
  have HI := Lib.hid hI
  have hql := cell_lt hq
  have HS := Lib.hid (hS.ext (Ext.alloc (Ext.rfl_ w) (.cells #[.int .i64 t.num, .int .i64 t.lvl, .slice A n c, .slice A' n' c', .int .i64 t.size] 42)))
  clear hI hS
  go_enter Tryz.func19, Tryz.ntmps19
  go_wp2_with (at_lookup; refine wp_setLook rfl _ _ rfl b S HS.out rfl t.num HI.out rfl ?_; refine wp_setIs rfl _ rfl _ rfl ?_)
  go_ret
  exact ⟨rfl, (by with_reducible (repeat (first | exact Ext.rfl_ _ | assumption | refine Ext.drew ?_ | refine Ext.drewN ?_ _ | refine Ext.alloc ?_ _ | refine Ext.trans ?_ (by assumption))))⟩

/-- Where the first table that is dropped stands. -/
def idxT (S : List Int) : List Tab → Nat
  | [] => 0
  | t :: ts => if t.num ∈ S then 0 else idxT S ts + 1
theorem idxT_le (S : List Int) (ts : List Tab) : idxT S ts ≤ ts.length := by
  induction ts with
  | nil => exact Nat.le_refl _
  | cons t ts ih => unfold idxT; split <;> simp <;> omega
theorem idxT_at {S : List Int} {ts : List Tab} {k : Nat} {t : Tab} (h : ∀ u ∈ ts.take k, u.num ∉ S) (ht : ts[k]? = some t) (hm : t.num ∈ S) : idxT S ts = k := by
  induction ts generalizing k with
  | nil => simp at ht
  | cons a ts ih =>
    cases k with
    | zero =>
      simp at ht
      subst ht
      unfold idxT
      rw [if_pos hm]
    | succ k =>
      unfold idxT
      rw [if_neg (h a (by simp)), ih (k := k) (fun u hu => h u (by simp [hu])) (by simpa using ht)]
theorem idxT_none {S : List Int} {ts : List Tab} (h : ∀ u ∈ ts, u.num ∉ S) : idxT S ts = ts.length := by
  induction ts with
  | nil => rfl
  | cons a ts ih =>
    unfold idxT
    rw [if_neg (h a (by simp)), ih (fun u hu => h u (by simp [hu]))]
    simp
theorem idxT_head {S : List Int} {ts : List Tab} : ∀ u ∈ ts.take (idxT S ts), u.num ∉ S := by
  induction ts with
  | nil => intro u hu; simp at hu
  | cons a ts ih =>
    intro u hu
    unfold idxT at hu
    by_cases h : a.num ∈ S
    · rw [if_pos h] at hu; simp at hu
    · rw [if_neg h] at hu
      simp only [List.take_succ_cons, List.mem_cons] at hu
      rcases hu with rfl | hu
      · exact h
      · exact ih u hu
theorem idxT_hit {S : List Int} {ts : List Tab} {t : Tab} (h : ts[idxT S ts]? = some t) : t.num ∈ S := by
  induction ts with
  | nil => simp at h
  | cons a ts ih =>
    unfold idxT at h
    by_cases hm : a.num ∈ S
    · rw [if_pos hm] at h
      simp at h
      rw [← h]
      exact hm
    · rw [if_neg hm] at h
      exact ih (by simpa using h)

def idxR (S : List Int) (ts : List Tab) (n : Nat) : Int := if idxT S ts < n then (idxT S ts : Int) else -1
set_option maxRecDepth 100000 in
set_option maxHeartbeats 4000000 in
theorem idx_any (A : Option Addr) (n c : Nat) (ts : List Tab) (q b : Nat) (S : List Int) (w : World) (hl : RdLT w A n ts) (hq : w.cell? ⟨q, 0, none⟩ = some (.map (some b))) (hS : SetM w b S) :
    Calls Tryz.prog 45 #[.slice A n c, .func (.func 19) #[] #[.pointer (some ⟨q, 0, none⟩)]] w fun e w' => e = .returned (.int .i64 (idxR S ts n)) ∧ Ext w w' := by
  have HL := Lib.hid hl
  have hn := hl.2.1
  unfold B47 at hn
  have HQ := Lib.hid hq
  have HS := Lib.hid hS
  clear hl hq hS
  go_enter Tryz.func45, Tryz.ntmps45
  go_wp2
  go_loopw [8] (fun i wr => ∃ k : Nat, i = .int .i64 k ∧ k ≤ n ∧ Ext w wr ∧ Hid (∀ u ∈ ts.take k, u.num ∉ S)) (fun i _ => n - (intOf i).toNat)
  case atStart => exact ⟨0, rfl, Nat.zero_le _, Ext.rfl_ _, Lib.hid (by simp)⟩
  case round =>
    obtain ⟨k, rfl, hk, hE, HG⟩ := hrel
    by_cases cc : (k : Int) < (n : Int)
    rotate_left
    · have HR : Hid ((-1 : Int) = idxR S ts n) := Lib.hid (by
        unfold idxR
        have e : k = n := by omega
        have g := HG.out
        rw [e, List.take_of_length_le (by rw [HL.out.1]; omega)] at g
        rw [idxT_none g, HL.out.1, if_neg (by omega)])
      go_wp2
      go_ret
      exact ⟨ret_int HR.out, hE⟩
    obtain ⟨b', o, A1, n1, c1, A2, n2, c2, t, rfl, ht, ⟨q0, q1, q2, q3, q4⟩, hr⟩ := (HL.out.ext hE).at_ k (by omega)
    have HT0 := Lib.hid ht
    have HT := Lib.hid hr
    clear hr ht
    by_cases hm : t.num ∈ S
    · have HD := Lib.hid (decide_eq_true hm)
      have HR : Hid ((k : Int) = idxR S ts n) := Lib.hid (by unfold idxR; rw [idxT_at HG.out HT0.out hm, if_pos (by omega)])
      clear hm
      go_wp2_with fail
      refine (drop_any _ t q b S _ HT.out (hE.keeps _ _ _ HQ.out) (HS.out.ext hE)).mono ?_
      rintro e w1 ⟨rfl, hw1⟩
      rw [HD.out]
      go_wp2
      go_ret
      exact ⟨ret_int HR.out, hE.trans hw1⟩
    · have HD := Lib.hid (decide_eq_false hm)
      have HG2 : Hid (∀ u ∈ ts.take (k + 1), u.num ∉ S) := Lib.hid (by
        have e : ts.take (k + 1) = ts.take k ++ [t] := by rw [List.take_add_one, HT0.out]; rfl
        rw [e]
        intro u hu
        rcases List.mem_append.1 hu with hu | hu
        · exact HG.out u hu
        · simp at hu; subst hu; exact hm)
      clear hm
      go_wp2_with fail
      refine (drop_any _ t q b S _ HT.out (hE.keeps _ _ _ HQ.out) (HS.out.ext hE)).mono ?_
      rintro e w1 ⟨rfl, hw1⟩
      rw [HD.out]
      go_wp2
      go_roundw
      case rel => exact ⟨k + 1, by simp, by omega, hE.trans hw1, HG2⟩
      case measure => simp [intOf]; omega

end Go.Proofs.YteooaplimiifiaaGreat
