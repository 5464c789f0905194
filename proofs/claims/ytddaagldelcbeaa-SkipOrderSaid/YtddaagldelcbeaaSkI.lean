/- The skiplist: a node is put in, plainly. Conditions: none. -/
import Derived.Test.YtddaagldelcbeaaSkA
import Derived.Test.YtddaagldelcbeaaWrLen
namespace Go.Proofs.Ytddaagldelcbeaa
set_option linter.unusedSimpArgs false
set_option linter.unusedVariables false
open Go.RowKit

theorem nx_hit {j : Nat} {A : List Nd} (h : ∃ c ∈ A, j < ht c.x) (B C : List Nd) : nx j (A ++ B) = nx j (A ++ C) := by
  induction A with
  | nil => obtain ⟨c, hc, _⟩ := h; simp at hc
  | cons n A ih =>
    by_cases h1 : j < ht n.x
    · simp [nx, h1]
    · simp only [List.cons_append, nx, if_neg h1]
      obtain ⟨c, hc, hj⟩ := h
      rcases List.mem_cons.1 hc with rfl | hc
      · omega
      · exact ih ⟨c, hc, hj⟩
theorem nx_ptr (j : Nat) (L : List Nd) : ∃ q, nx j L = .pointer q := by
  induction L with
  | nil => exact ⟨_, rfl⟩
  | cons n L ih =>
    unfold nx
    split
    · exact ⟨_, rfl⟩
    · exact ih
theorem nx_skip {j : Nat} {n : Nd} (h : ht n.x ≤ j) (A B : List Nd) : nx j (A ++ n :: B) = nx j (A ++ B) := by
  induction A with
  | nil => simp only [List.nil_append, nx, if_neg (Nat.not_lt.2 h)]
  | cons a A ih =>
    simp only [List.cons_append, nx]
    rw [ih]

/-- The cells of the last node's entry (the head's, if there is none). -/
def cc (A : List Nd) : List Value := match A.getLast? with | none => hd0 | some nd => cellsE nd.h nd.x
theorem cc_snoc (A : List Nd) (nd : Nd) : cc (A ++ [nd]) = cellsE nd.h nd.x := by simp [cc]
theorem cc_nil : cc [] = hd0 := rfl

theorem nod4 {w w' : World} {b : Nat} {hd : Hdr} {x : Ent} {f : Nat → Value} (h : w.heap[b]? = some (ndObj (cellsE hd x) f)) (e : Ext w w') :
    w'.cell? ⟨b, 0, none⟩ = some (.slice hd.A hd.n hd.c) ∧ w'.cell? ⟨b, 1, none⟩ = some (.int .i64 x.seq) ∧ w'.cell? ⟨b, 2, none⟩ = some (.int .i64 x.kind) ∧ w'.cell? ⟨b, 3, none⟩ = some (.slice hd.B hd.m hd.d) := by
  have h' := e.blk h
  exact ⟨by rw [cell_at h']; rfl, by rw [cell_at h']; rfl, by rw [cell_at h']; rfl, by rw [cell_at h']; rfl⟩

/-- The last node of a height above k: it stands behind A1. -/
theorem last_split (k : Nat) (hk : k < 8) (A0 : List Nd) : ∃ A1 A2, A0 = A1 ++ A2 ∧ k < cH A1 ∧ ∀ c ∈ A2, ht c.x ≤ k := by
  induction hl : A0.length generalizing A0 with
  | zero =>
    obtain rfl : A0 = [] := List.eq_nil_of_length_eq_zero hl
    exact ⟨[], [], rfl, by rw [cH_nil]; exact hk, fun c h => by simp at h⟩
  | succ l ih =>
    rcases List.eq_nil_or_concat A0 with rfl | ⟨A, nd, rfl⟩
    · simp at hl
    rw [List.concat_eq_append] at hl ⊢
    by_cases h : k < ht nd.x
    · exact ⟨A ++ [nd], [], by simp, by rw [cH_snoc]; exact h, fun c h => by simp at h⟩
    · obtain ⟨A1, A2, rfl, h1, h2⟩ := ih A (by simpa using hl)
      refine ⟨A1, A2 ++ [nd], by simp, h1, ?_⟩
      intro c hc
      rcases List.mem_append.1 hc with hc | hc
      · exact h2 c hc
      · obtain rfl : c = nd := by simpa using hc
        omega

def mixf (B0 : List Nd) (new : Nd) (k H : Nat) (A2 : List Nd) (j : Nat) : Value := if j < k then nxs H (A2 ++ new :: B0) j else nxs H (A2 ++ B0) j

/-- The nodes while a new one is being hung in: the levels below k are done. -/
structure PutI (w3 : World) (h : Nat) (A0 B0 : List Nd) (new : Nd) (k : Nat) (wr : World) : Prop where
  keep : Kept (fun i => i ≠ new.b ∧ i ≠ h ∧ i ∉ A0.map Nd.b) w3 wr
  fresh : wr.heap[new.b]? = some (ndObj (cellsE new.h new.x) (fun j => if j < k then nx j B0 else .pointer none))
  pre : ∀ A1 A2, A0 = A1 ++ A2 → wr.heap[cb h A1]? = some (ndObj (cc A1) (mixf B0 new k (cH A1) A2))

theorem ndObj_congr {c : List Value} {f g : Nat → Value} (h : ∀ j, j < 8 → f j = g j) : ndObj c f = ndObj c g := by
  unfold ndObj ndCells
  rw [h 0 (by omega), h 1 (by omega), h 2 (by omega), h 3 (by omega), h 4 (by omega), h 5 (by omega), h 6 (by omega), h 7 (by omega)]
theorem nd_setN {a b c d : Value} {f : Nat → Value} (j : Nat) (hj : j < 8) (v : Value) : (ndCells [a, b, c, d] f).setIfInBounds (4 + j) v = ndCells [a, b, c, d] (fun i => if i = j then v else f i) := by
  match j, hj with
  | 0, _ => rfl
  | 1, _ => rfl
  | 2, _ => rfl
  | 3, _ => rfl
  | 4, _ => rfl
  | 5, _ => rfl
  | 6, _ => rfl
  | 7, _ => rfl
  | j + 8, h => omega
theorem cc_four (A : List Nd) : ∃ a b c d, cc A = [a, b, c, d] := by
  unfold cc
  split
  · exact ⟨_, _, _, _, rfl⟩
  · exact ⟨_, _, _, _, rfl⟩
theorem nd_set {w : World} {p : Nat} {cs : List Value} (h4 : ∃ a b c d, cs = [a, b, c, d]) {f : Nat → Value} (h : w.heap[p]? = some (ndObj cs f)) (j : Nat) (hj : j < 8) (v : Value) :
    (w.setCell ⟨p, 4 + j, none⟩ v).heap[p]? = some (ndObj cs (fun i => if i = j then v else f i)) := by
  obtain ⟨a, b, c, d, rfl⟩ := h4
  unfold ndObj
  rw [← nd_setN j hj v]
  simp [World.setCell, h, Array.getElem?_modify]
theorem nd_cell {w : World} {p : Nat} {cs : List Value} (h4 : ∃ a b c d, cs = [a, b, c, d]) {f : Nat → Value} (h : w.heap[p]? = some (ndObj cs f)) (j : Nat) (hj : j < 8) : w.cell? ⟨p, 4 + j, none⟩ = some (f j) := by
  obtain ⟨a, b, c, d, rfl⟩ := h4
  rw [cell_at h, ndCells_get j hj]

theorem cb_mem (h : Nat) (A A2 : List Nd) : cb h A = h ∨ cb h A ∈ (A ++ A2).map Nd.b := by
  rcases List.eq_nil_or_concat A with rfl | ⟨B, nd, rfl⟩
  · exact .inl rfl
  · rw [List.concat_eq_append, cb_snoc]; exact .inr (by simp)
/-- Two beginnings of one row that end at one block are one. -/
theorem cb_inj {h : Nat} {A A2 C C2 : List Nd} (e : A ++ A2 = C ++ C2) (hn : (h :: (A ++ A2).map Nd.b).Nodup) (hb : cb h A = cb h C) : A = C := by
  have hn' := hn
  rw [e] at hn'
  rw [List.nodup_cons] at hn hn'
  rcases List.eq_nil_or_concat A with rfl | ⟨B, nd, rfl⟩
  · rcases List.eq_nil_or_concat C with rfl | ⟨D, n2, rfl⟩
    · rfl
    · rw [List.concat_eq_append] at *
      rw [cb_nil, cb_snoc] at hb
      exact absurd (by rw [hb]; simp) hn'.1
  · rw [List.concat_eq_append] at *
    rcases List.eq_nil_or_concat C with rfl | ⟨D, n2, rfl⟩
    · rw [cb_nil, cb_snoc] at hb
      exact absurd (by rw [← hb]; simp) hn.1
    · rw [List.concat_eq_append] at *
      rw [cb_snoc, cb_snoc] at hb
      have hl : (B ++ [nd]).length = (D ++ [n2]).length := by
        have g1 : ((B ++ [nd] ++ A2).map Nd.b)[B.length]? = some nd.b := by simp
        have g2 : ((B ++ [nd] ++ A2).map Nd.b)[D.length]? = some nd.b := by rw [e, hb]; simp
        have l1 := (List.getElem?_eq_some_iff.1 g1)
        obtain ⟨i1, j1⟩ := l1
        obtain ⟨i2, j2⟩ := List.getElem?_eq_some_iff.1 g2
        have hp := List.pairwise_iff_getElem.1 hn.2
        rcases Nat.lt_trichotomy B.length D.length with hlt | heq | hlt
        · exact absurd (j1.trans j2.symm) (hp _ _ i1 i2 hlt)
        · simp [heq]
        · exact absurd (j2.trans j1.symm) (hp _ _ i2 i1 hlt)
      exact (List.append_inj e hl).1

theorem PutI.step {w3 wr w' : World} {h : Nat} {A0 B0 : List Nd} {new : Nd} {k : Nat} (p : PutI w3 h A0 B0 new k wr) (hk : k < ht new.x) (hn : (h :: A0.map Nd.b).Nodup) (hb : new.b ≠ h ∧ new.b ∉ A0.map Nd.b)
    {A1 A2 : List Nd} (e : A0 = A1 ++ A2) (h1 : k < cH A1) (h2 : ∀ c ∈ A2, ht c.x ≤ k)
    (k1 : w'.heap[new.b]? = (wr.setCell ⟨new.b, 4 + k, none⟩ (nx k B0)).heap[new.b]?) (k2 : w'.heap[cb h A1]? = (wr.setCell ⟨cb h A1, 4 + k, none⟩ (ptr new.b)).heap[cb h A1]?) (k3 : Kept (fun i => i ≠ new.b ∧ i ≠ cb h A1) wr w') :
    PutI w3 h A0 B0 new (k + 1) w' := by
  have hk8 : k < 8 := by have := (htH_le new.x.key new.x.seq).2; unfold ht at hk; omega
  have hin : ∀ C C2, A0 = C ++ C2 → cb h C = h ∨ cb h C ∈ A0.map Nd.b := fun C C2 ee => by rw [ee]; exact cb_mem h C C2
  have hne : ∀ C C2, A0 = C ++ C2 → cb h C ≠ new.b := fun C C2 ee e' => by
    rcases hin C C2 ee with h' | h'
    · exact hb.1 (by rw [← e', h'])
    · exact hb.2 (by rw [← e']; exact h')
  refine ⟨p.keep.trans (k3.mono fun i hi => ⟨hi.1, fun e' => ?_⟩), ?_, ?_⟩
  · rcases hin A1 A2 e with h' | h'
    · exact hi.2.1 (e'.trans h')
    · exact hi.2.2 (by rw [e']; exact h')
  · rw [k1, nd_set ⟨_, _, _, _, rfl⟩ p.fresh k hk8]
    refine congrArg some (ndObj_congr fun j hj => ?_)
    show (if j = k then _ else _) = _
    by_cases e1 : j = k
    · rw [if_pos e1, if_pos (by omega), e1]
    · rw [if_neg e1]
      by_cases e2 : j < k
      · rw [if_pos e2, if_pos (by omega)]
      · rw [if_neg e2, if_neg (by omega)]
  · intro C C2 ee
    have hold := p.pre C C2 ee
    by_cases eC : C = A1
    · subst eC
      obtain rfl : A2 = C2 := List.append_cancel_left (e.symm.trans ee)
      rw [k2, nd_set (cc_four _) hold k hk8]
      refine congrArg some (ndObj_congr fun j hj => ?_)
      show (if j = k then _ else _) = _
      unfold mixf
      by_cases e1 : j = k
      · rw [if_pos e1, if_pos (by omega), e1, nxs, if_pos h1, nx_low h2, nx, if_pos hk]
      · rw [if_neg e1]
        by_cases e2 : j < k
        · rw [if_pos e2, if_pos (by omega)]
        · rw [if_neg e2, if_neg (by omega)]
    · have hbn : cb h C ≠ cb h A1 := fun e' => eC (cb_inj (ee.symm.trans e) (by rw [← ee]; exact hn) e')
      have hlt := (Array.getElem?_eq_some_iff.1 hold).1
      rw [k3.block _ hlt ⟨hne C C2 ee, hbn⟩, hold]
      refine congrArg some (ndObj_congr fun j hj => ?_)
      unfold mixf
      by_cases e1 : j = k
      · rw [if_neg (by omega), if_pos (by omega), e1]
        unfold nxs
        by_cases hC : k < cH C
        · rw [if_pos hC, if_pos hC]
          -- C is the shorter one: what stands behind it holds the last node of A1
          refine nx_hit ?_ _ _
          have ee2 : C ++ C2 = A1 ++ A2 := ee.symm.trans e
          rcases List.append_eq_append_iff.1 ee2 with ⟨D, hD1, hD2⟩ | ⟨D, hD1, hD2⟩
          · -- A1 = C ++ D, C2 = D ++ A2
            rcases List.eq_nil_or_concat D with rfl | ⟨D', nd, rfl⟩
            · exact absurd (by simpa using hD1.symm) eC
            · rw [List.concat_eq_append] at hD1 hD2
              refine ⟨nd, by rw [hD2]; simp, ?_⟩
              rw [hD1, ← List.append_assoc, cH_snoc] at h1
              exact h1
          · -- C = A1 ++ D, A2 = D ++ C2
            rcases List.eq_nil_or_concat D with rfl | ⟨D', nd, rfl⟩
            · exact absurd (by simpa using hD1) eC
            · rw [List.concat_eq_append] at hD1 hD2
              rw [hD1, ← List.append_assoc, cH_snoc] at hC
              have := h2 nd (by rw [hD2]; simp)
              omega
        · rw [if_neg hC, if_neg hC]
      · by_cases e2 : j < k
        · rw [if_pos e2, if_pos (by omega)]
        · rw [if_neg e2, if_neg (by omega)]

theorem split3 {A0 B0 A B : List Nd} {new nd : Nd} (e : A0 ++ new :: B0 = A ++ nd :: B) :
    (∃ A2, A0 = A ++ nd :: A2 ∧ B = A2 ++ new :: B0) ∨ (A = A0 ∧ nd = new ∧ B = B0) ∨ ∃ A3, A = A0 ++ new :: A3 ∧ B0 = A3 ++ nd :: B := by
  rcases List.append_eq_append_iff.1 e with ⟨D, hD1, hD2⟩ | ⟨D, hD1, hD2⟩
  · cases D with
    | nil => simp at hD2; exact .inr (.inl ⟨by simpa using hD1, hD2.1.symm, hD2.2.symm⟩)
    | cons d D =>
      simp at hD2
      obtain ⟨rfl, rfl⟩ := hD2
      exact .inr (.inr ⟨D, hD1, rfl⟩)
  · cases D with
    | nil => simp at hD2; exact .inr (.inl ⟨by simpa using hD1.symm, hD2.1, hD2.2⟩)
    | cons d D =>
      simp at hD2
      obtain ⟨rfl, rfl⟩ := hD2
      exact .inl ⟨D, hD1, rfl⟩

theorem two_set {wr : World} {p q i j : Nat} {u v : Value} (hne : ¬ q = p) :
    (((wr.setCell ⟨p, i, none⟩ u).setCell ⟨q, j, none⟩ v).drew).heap[p]? = (wr.setCell ⟨p, i, none⟩ u).heap[p]? ∧
    (((wr.setCell ⟨p, i, none⟩ u).setCell ⟨q, j, none⟩ v).drew).heap[q]? = (wr.setCell ⟨q, j, none⟩ v).heap[q]? ∧
    Kept (fun k => k ≠ p ∧ k ≠ q) wr (((wr.setCell ⟨p, i, none⟩ u).setCell ⟨q, j, none⟩ v).drew) := by
  refine ⟨?_, ?_, ?_⟩
  · exact Below.heap_setCell _ _ _ _ (fun e => hne e.symm)
  · have h1 : (wr.setCell ⟨p, i, none⟩ u).heap[q]? = wr.heap[q]? := Below.heap_setCell _ _ _ _ hne
    show ((wr.setCell ⟨p, i, none⟩ u).setCell ⟨q, j, none⟩ v).heap[q]? = _
    generalize wr.setCell ⟨p, i, none⟩ u = w1 at h1
    simp only [World.setCell, Array.getElem?_modify, if_true, h1]
  · exact ((Kept.rfl_ _ wr).setCell (p := ⟨p, i, none⟩) (fun h => h.1 rfl) u |>.setCell (p := ⟨q, j, none⟩) (fun h => h.2 rfl) v).then_ ((Ext.rfl_ _).drew)
theorem li_set {w : World} {g : Nat} {a b c : Value} {t : TypeId} {fr : Nat × Nat} (h : w.heap[g]? = some (.cells #[a, b, c] t fr)) (j : Nat) (v : Value) : (w.setCell ⟨g, j, none⟩ v).heap[g]? = some (.cells (#[a, b, c].setIfInBounds j v) t fr) := by
  simp [World.setCell, h, Array.getElem?_modify]
theorem wB_le (xs : List Ent) : wB xs ≤ 65630 * xs.length := by
  induction xs with
  | nil => simp [wB]
  | cons x xs ih =>
    have := wrE_len x
    simp [wB] at ih ⊢
    omega

theorem wB_ins (A B : List Nd) (n : Nd) : wB ((A ++ n :: B).map Nd.x) = wB ((A ++ B).map Nd.x) + (wrE n.x).length := by
  simp [wB]; omega

theorem noU_put {w3 : World} {g h : Nat} {A0 B0 : List Nd} {b : Nat} {hd : Hdr} {x : Ent} {f : Nat → Value} (s : SkL w3 g h (A0 ++ B0)) (hb3 : w3.heap[b]? = some (ndObj (cellsE hd x) f)) (hf : ∀ j z, f j ≠ .int .u8 z) :
    NoU (fun i => i ≠ g ∧ i ≠ b ∧ i ≠ h ∧ i ∉ A0.map Nd.b) w3 := by
  intro i o z hc
  have hn := s.noU i o z hc
  refine ⟨fun e => hn (.inl e), fun e => ?_, fun e => hn (.inr (.inl e)), fun e => hn (.inr (.inr (by rw [List.map_append]; exact List.mem_append_left _ e)))⟩
  subst e
  rw [cell_at hb3] at hc
  exact ndCells_no z (by simp) (by simp) (by simp) (by simp) (fun j => hf j z) _ hc
theorem li2 {w w' : World} {g : Nat} {a b c : Value} {t : TypeId} (h : w.heap[g]? = some (.cells #[a, b, c] t (0, 0))) (e : Ext w w') : w'.cell? ⟨g, 2, none⟩ = some c ∧ w'.frozen? ⟨g, 2, none⟩ = false := by
  have h' := e.blk h
  exact ⟨by rw [cell_at h']; rfl, frozen_at h'⟩

theorem PutI.done {w3 wr w' : World} {g h : Nat} {A0 B0 : List Nd} {new : Nd} {f : Nat → Value} (p : PutI w3 h A0 B0 new (ht new.x) wr) (s : SkL w3 g h (A0 ++ B0)) (hbT : ¬ skT g h (A0 ++ B0) new.b)
    (hb3 : w3.heap[new.b]? = some (ndObj (cellsE new.h new.x) f)) (hf : ∀ j z, f j ≠ .int .u8 z) (hrd : RdE w3 (.agg (cellsE new.h new.x).toArray) new.x)
    (k : Kept (fun i => i ≠ g) wr w') (hg : w'.heap[g]? = some (liObj h ((A0 ++ new :: B0).length : Nat) (wB ((A0 ++ new :: B0).map Nd.x) : Nat)))
    (ha : ∀ a ∈ A0, cmpE a.x new.x < 0) (hB : ∀ b ∈ B0, cmpE new.x b.x < 0) (hm : mayE new.x = true) : SkL w' g h (A0 ++ new :: B0) := by
  obtain ⟨hgh, hgm⟩ := s.gne
  have hbg : new.b ≠ g := fun e => hbT (.inl e)
  have hbh : new.b ≠ h := fun e => hbT (.inr (.inl e))
  have hbm : new.b ∉ (A0 ++ B0).map Nd.b := fun e => hbT (.inr (.inr e))
  have hX : Kept (fun i => i ≠ g ∧ i ≠ new.b ∧ i ≠ h ∧ i ∉ A0.map Nd.b) w3 w' := (p.keep.mono fun i hi => hi.2).trans (k.mono fun i hi => hi.1)
  have hU : NoU (fun i => i ≠ g ∧ i ≠ new.b ∧ i ≠ h ∧ i ∉ A0.map Nd.b) w3 := by
    intro i o z hc
    have hn := s.noU i o z hc
    refine ⟨fun e => hn (.inl e), fun e => ?_, fun e => hn (.inr (.inl e)), fun e => hn (.inr (.inr (by rw [List.map_append]; exact List.mem_append_left _ e)))⟩
    subst e
    rw [cell_at hb3] at hc
    exact ndCells_no z (by simp) (by simp) (by simp) (by simp) (fun j => hf j z) _ hc
  have toW : ∀ i o, i ≠ g → wr.heap[i]? = some o → w'.heap[i]? = some o := fun i o hi ho => (k.block i (Array.getElem?_eq_some_iff.1 ho).1 hi).trans ho
  have hd := s.sk.ne
  rw [List.nodup_cons] at hd
  have hfin : ∀ (H : Nat) (A2 : List Nd) (j : Nat), mixf B0 new (ht new.x) H A2 j = nxs H (A2 ++ new :: B0) j := by
    intro H A2 j
    unfold mixf
    by_cases hj : j < ht new.x
    · rw [if_pos hj]
    · rw [if_neg hj]
      unfold nxs
      rw [nx_skip (Nat.le_of_not_lt hj)]
  have hpre : ∀ A1 A2, A0 = A1 ++ A2 → wr.heap[cb h A1]? = some (ndObj (cc A1) (nxs (cH A1) (A2 ++ new :: B0))) := by
    intro A1 A2 e
    rw [p.pre A1 A2 e]
    exact congrArg some (ndObj_congr fun j _ => hfin _ _ _)
  refine ⟨hg, ⟨toW _ _ (fun e => hgh e.symm) ?_, ?_, ?_, ?_⟩, ?_, ?_⟩
  · have := hpre [] A0 rfl
    rwa [cb_nil, cc_nil, cH_nil] at this
  · intro A nd B e
    rcases split3 e with ⟨A2, e1, rfl⟩ | ⟨rfl, rfl, rfl⟩ | ⟨A3, rfl, e1⟩
    · have := hpre (A ++ [nd]) A2 (by rw [e1]; simp)
      rw [cb_snoc, cc_snoc, cH_snoc] at this
      exact toW _ _ (fun e' => hgm (by rw [← e', e1]; simp)) this
    · refine toW _ _ hbg ?_
      rw [p.fresh]
      rfl
    · have hnb : nd.b ∈ (A0 ++ B0).map Nd.b := by rw [e1]; simp
      have hnot : nd.b ∉ A0.map Nd.b := by
        intro hm'
        have := hd.2
        rw [List.map_append, List.nodup_append] at this
        exact this.2.2 _ hm' nd.b (by rw [e1]; simp) rfl
      have h3 := s.sk.node (A0 ++ A3) nd B (by rw [e1]; simp)
      rw [hX.block _ (Array.getElem?_eq_some_iff.1 h3).1 ⟨fun e' => hgm (by rw [← e']; exact hnb), fun e' => hbm (by rw [← e']; exact hnb), fun e' => hd.1 (by rw [← e']; exact hnb), hnot⟩]
      exact h3
  · intro nd hnd
    rcases List.mem_append.1 hnd with h' | h'
    · exact (s.sk.rd nd (List.mem_append_left _ h')).keptU hX hU
    · rcases List.mem_cons.1 h' with rfl | h'
      · exact hrd.keptU hX hU
      · exact (s.sk.rd nd (List.mem_append_right _ h')).keptU hX hU
  · rw [List.nodup_cons]
    rw [List.map_append] at hd hbm
    rw [List.map_append, List.map_cons]
    rw [List.nodup_append] at hd
    simp only [List.mem_append, not_or] at hbm hd
    refine ⟨?_, ?_⟩
    · simp only [List.mem_append, List.mem_cons, not_or]
      exact ⟨hd.1.1, fun e => hbh e.symm, hd.1.2⟩
    · rw [List.nodup_append]
      refine ⟨hd.2.1, List.nodup_cons.2 ⟨hbm.2, hd.2.2.1⟩, fun a h1 b h2 => ?_⟩
      rcases List.mem_cons.1 h2 with rfl | h2
      · exact fun e => hbm.1 (by rw [← e]; exact h1)
      · exact hd.2.2.2 a h1 b h2
  · have hu := s.up
    rw [List.map_append] at hu ⊢
    rw [List.map_cons]
    rw [List.pairwise_append] at hu ⊢
    refine ⟨hu.1, List.pairwise_cons.2 ⟨fun y hy => ?_, hu.2.1⟩, fun y hy z hz => ?_⟩
    · obtain ⟨b, hb, rfl⟩ := List.mem_map.1 hy
      exact hB b hb
    · obtain ⟨a, ha', rfl⟩ := List.mem_map.1 hy
      rcases List.mem_cons.1 hz with rfl | hz
      · exact ha a ha'
      · exact hu.2.2 _ hy _ hz
  · intro nd hnd
    rcases List.mem_append.1 hnd with h' | h'
    · exact s.may nd (List.mem_append_left _ h')
    · rcases List.mem_cons.1 h' with rfl | h'
      · exact hm
      · exact s.may nd (List.mem_append_right _ h')

end Go.Proofs.Ytddaagldelcbeaa
