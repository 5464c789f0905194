/- slices.DeleteFunc of the tables that are dropped. Conditions: the list is the call's own. -/
import Derived.Test.YteooaplimiifiaaGreatEdDel
import Derived.Test.YteooaplimiifiaaGreatRowP
namespace Go.Proofs.YteooaplimiifiaaGreat
set_option linter.unusedSimpArgs false
set_option linter.unusedVariables false
set_option maxRecDepth 100000
open Go.RowKit

theorem rowP_zip (hs : List HdT) (ts : List Tab) : rowP (hs.zip ts) = rowT hs ts := by
  induction hs generalizing ts with
  | nil => rfl
  | cons h hs ih =>
    cases ts with
    | nil => rfl
    | cons t ts =>
      have e : rowP ((h, t) :: hs.zip ts) = cellsT h t ++ rowP (hs.zip ts) := rfl
      rw [List.zip_cons_cons, e, ih, rowT_cons]

/-- Pairs, each apart from the call's rows. -/
def ElP (w : World) (base : Nat) (L : List Pr) : Prop := ∀ p ∈ L, ElT w base p.1 p.2
/-- A row of the call's own, as a block with pairs. -/
theorem OwnT.row {w : World} {base : Nat} {v : Value} {ts : List Tab} (h : OwnT w base v ts) (hv : v ≠ .slice none 0 0) :
    ∃ g cap L tail, v = .slice (some ⟨g, 0, none⟩) ts.length cap ∧ base ≤ g ∧ RowP w g L tail ∧ L.map Prod.snd = ts ∧ ElP w base L ∧ ts.length ≤ cap ∧ cap ≤ maxLen ∧ tail.length + ts.length * 5 = cap * 5 := by
  obtain ⟨hs, hl, ho, hr⟩ := h
  rcases ho.2 with ⟨rfl, _⟩ | ⟨g, cap, cur, rfl, hb, hg, hc, hm, hcs, ht⟩
  · exact absurd rfl hv
  · refine ⟨g, cap, hs.zip ts, cur.toList.drop (ts.length * 5), rfl, hb, ?_, ?_, ?_, hc, hm, ?_⟩
    · unfold RowP
      rw [rowP_zip, ← ht, List.take_append_drop]
      exact hg
    · exact List.map_snd_zip (by omega)
    · intro p hp
      obtain ⟨i, hi, rfl⟩ := List.mem_iff_getElem.1 hp
      rw [List.length_zip] at hi
      rw [List.getElem_zip]
      exact hr i (by omega) (by omega)
    · rw [List.length_drop, Array.length_toList, hcs]
      omega
theorem OwnT.of_row {w : World} {base g cap : Nat} {L : List Pr} {tail : List Value} (h : RowP w g L tail) (hb : base ≤ g) (he : ElP w base L) (hc : L.length ≤ cap) (hm : cap ≤ maxLen) (ht : tail.length + L.length * 5 = cap * 5) :
    OwnT w base (.slice (some ⟨g, 0, none⟩) L.length cap) (L.map Prod.snd) := by
  refine ⟨L.map Prod.fst, by simp, ⟨?_, .inr ⟨g, cap, _, by simp, hb, h, by simpa using hc, hm, ?_, ?_⟩⟩, fun k h1 h2 => ?_⟩
  · rw [rowT_length (by simp)]
  · simp [rowP_len]; omega
  · have e : L = (L.map Prod.fst).zip (L.map Prod.snd) := List.zip_of_prod rfl rfl
    have e2 := rowP_zip (L.map Prod.fst) (L.map Prod.snd)
    rw [← e] at e2
    rw [List.toList_toArray, ← e2, List.length_map, List.take_left' (rowP_len L)]
  · simp only [List.getElem_map]
    exact he _ (List.getElem_mem _)


theorem _root_.Go.World.grownBy.trans_ {a b c : World} {row : Option Nat} (h : a.grownBy b row) (k : b.grownBy c row) : a.grownBy c row :=
  ⟨k.os.trans h.os, k.tape.trans h.tape, k.output.trans h.output, Nat.le_trans h.size k.size, fun i hi hne => (k.block i (Nat.lt_of_lt_of_le hi h.size) hne).trans (h.block i hi hne)⟩
theorem Ext.grownBy {a b : World} (h : Ext a b) (row : Option Nat) : a.grownBy b row := ⟨(Ext.below h).os, (Ext.below h).tape, (Ext.below h).output, (Ext.below h).size, fun k hk _ => (Ext.below h).block k hk⟩

/-- A function value that says of tables whether p, and keeps what Inv says. -/
def SaysT (g : Nat) (cb : Array Value) (p : Tab → Bool) (Inv : World → Prop) : Prop :=
  ∀ v t w, Inv w → RdT w v t → Calls Tryz.prog g (#[v] ++ cb) w fun e w' => e = .returned (.bool (p t)) ∧ Ext w w'
/-- What grows, but for one block, keeps it. -/
def KeepsT (row : Option Nat) (Inv : World → Prop) : Prop := ∀ w w', Inv w → w.grownBy w' row → Inv w'

theorem ElP.ext {w w' : World} {base : Nat} {L : List Pr} (h : ElP w base L) (hx : Ext w w') : ElP w' base L := fun p hp => (h p hp).ext hx
theorem ElP.row {w w' : World} {base g : Nat} {L M : List Pr} {tail : List Value} (h : ElP w base L) (hg : w.grownBy w' (some g)) (hr : RowP w g M tail) (hb : base ≤ g) : ElP w' base L := fun p hp => (h p hp).grown hg (fun k hk => by cases hk; exact ⟨hb, _, _, hr⟩)

/-- The cells of place j. -/
theorem RowP.cells {w : World} {g : Nat} {L : List Pr} {tail : List Value} (h : RowP w g L tail) (j : Nat) (hj : j < L.length) :
    w.cell? ⟨g, j * 5, none⟩ = some (.int .i64 L[j].2.num) ∧ w.cell? ⟨g, j * 5 + 1, none⟩ = some (.int .i64 L[j].2.lvl) ∧ w.cell? ⟨g, j * 5 + 2, none⟩ = some (.slice L[j].1.A L[j].1.n L[j].1.c) ∧ w.cell? ⟨g, j * 5 + 3, none⟩ = some (.slice L[j].1.B L[j].1.m L[j].1.d) ∧ w.cell? ⟨g, j * 5 + 4, none⟩ = some (.int .i64 L[j].2.size) := by
  have e0 := rowP_zip (L.map Prod.fst) (L.map Prod.snd)
  have e1 : (L.map Prod.fst).zip (L.map Prod.snd) = L := (List.zip_of_prod rfl rfl).symm
  rw [e1] at e0
  have hc : ∀ k, k < 5 → w.cell? ⟨g, j * 5 + k, none⟩ = (cellsP L[j])[k]? := fun k hk => by
    have h1 := rowT_get (hs := L.map Prod.fst) (xs := L.map Prod.snd) (by simp) j (by simpa using hj) k hk
    rw [← e0] at h1
    unfold World.cell?
    have hh : w.heap[g]? = some (.cells (rowP L ++ tail).toArray 42 (0, 0)) := h
    rw [hh]
    simp only [List.getElem?_toArray]
    rw [List.getElem?_append_left (by rw [rowP_len]; omega), h1]
    simp [cellsP]
  refine ⟨by simpa [cellsP, cellsT] using hc 0 (by omega), by simpa [cellsP, cellsT] using hc 1 (by omega), by simpa [cellsP, cellsT] using hc 2 (by omega), by simpa [cellsP, cellsT] using hc 3 (by omega), by simpa [cellsP, cellsT] using hc 4 (by omega)⟩

/-- 'clear(s[i:])' at the operation. -/
theorem wp_clearP {ops : Array Oper} {rest : List Oper} {o : Oper} {a : Act} {w : World} {Q : Exit → Act → World → Prop} (hgd : o.guard = none) (x : Operand) (ho : o.op = .call { callee := .builtin .clear, args := #[x], argTypes := #[22] })
    (g : Nat) (L : List Pr) (tail : List Value) (h : RowP w g L tail) (i n c off : Nat) (hoff : off = i * 5) (hn : L.length = i + n) (hx : a.eval x = .slice (some ⟨g, off, none⟩) n c)
    (hK : ∀ w' tail2, RowP w' g (L.take i) tail2 → tail2.length = n * 5 + tail.length → w.grownBy w' (some g) → wpList Tryz.prog ops Q rest (a.put o.dst (.tuple #[])) w') : wpList Tryz.prog ops Q (o :: rest) a w := by
  subst hoff
  obtain ⟨w', tail2, hrun, h1, h2, h3⟩ := h.clear i n c o.type hn
  refine wpList_plain hgd fun K hK' => ?_
  unfold Oper.wp
  simp [execOp, ho, resolve, invoke, builtin, hx, hrun, Result.andThen]
  exact hK' _ _ (hK w' tail2 h1 h2 h3)

/-! ### the first one that is dropped, of any sort -/
def idxQ (p : Tab → Bool) : List Tab → Nat
  | [] => 0
  | t :: ts => if p t then 0 else idxQ p ts + 1
theorem idxQ_le (p : Tab → Bool) (ts : List Tab) : idxQ p ts ≤ ts.length := by
  induction ts with
  | nil => exact Nat.le_refl _
  | cons t ts ih => unfold idxQ; split <;> simp <;> omega
theorem idxQ_at {p : Tab → Bool} {ts : List Tab} {k : Nat} {t : Tab} (h : ∀ u ∈ ts.take k, p u = false) (ht : ts[k]? = some t) (hm : p t = true) : idxQ p ts = k := by
  induction ts generalizing k with
  | nil => simp at ht
  | cons a ts ih =>
    cases k with
    | zero =>
      simp at ht
      subst ht
      unfold idxQ
      rw [if_pos hm]
    | succ k =>
      unfold idxQ
      rw [if_neg (by rw [h a (by simp)]; decide), ih (k := k) (fun u hu => h u (by simp [hu])) (by simpa using ht)]
theorem idxQ_none {p : Tab → Bool} {ts : List Tab} (h : ∀ u ∈ ts, p u = false) : idxQ p ts = ts.length := by
  induction ts with
  | nil => rfl
  | cons a ts ih =>
    unfold idxQ
    rw [if_neg (by rw [h a (by simp)]; decide), ih (fun u hu => h u (by simp [hu]))]
    simp
theorem idxQ_head {p : Tab → Bool} {ts : List Tab} : ∀ u ∈ ts.take (idxQ p ts), p u = false := by
  induction ts with
  | nil => intro u hu; simp at hu
  | cons a ts ih =>
    intro u hu
    unfold idxQ at hu
    by_cases h : p a = true
    · rw [if_pos h] at hu; simp at hu
    · rw [if_neg h] at hu
      simp only [List.take_succ_cons, List.mem_cons] at hu
      rcases hu with rfl | hu
      · simpa using h
      · exact ih u hu
theorem idxQ_hit {p : Tab → Bool} {ts : List Tab} {t : Tab} (h : ts[idxQ p ts]? = some t) : p t = true := by
  induction ts with
  | nil => simp at h
  | cons a ts ih =>
    unfold idxQ at h
    by_cases hm : p a = true
    · rw [if_pos hm] at h
      simp at h
      rw [← h]
      exact hm
    · rw [if_neg hm] at h
      exact ih (by simpa using h)
def idxQR (p : Tab → Bool) (ts : List Tab) (n : Nat) : Int := if idxQ p ts < n then (idxQ p ts : Int) else -1

set_option maxRecDepth 100000 in
set_option maxHeartbeats 4000000 in
theorem idxq_any (A : Option Addr) (n c : Nat) (ts : List Tab) (g : Nat) (cb : Array Value) (p : Tab → Bool) (Inv : World → Prop) (w : World) (hl : RdLT w A n ts) (eg : ∀ args w, (callFunc g args).run Tryz.prog w = .ok (.enter g args) w) (hs : SaysT g cb p Inv) (hk : KeepsT none Inv) (hi : Inv w) :
    Calls Tryz.prog 45 #[.slice A n c, .func (.func g) #[] cb] w fun e w' => e = .returned (.int .i64 (idxQR p ts n)) ∧ Ext w w' := by
  have HL := Lib.hid hl
  have hn := hl.2.1
  unfold B47 at hn
  have HS := Lib.hid hs
  have HK := Lib.hid hk
  have HI := Lib.hid hi
  clear hl hs hk hi
  go_enter Tryz.func45, Tryz.ntmps45
  go_wp2
  go_loopw [8] (fun i wr => ∃ k : Nat, i = .int .i64 k ∧ k ≤ n ∧ Ext w wr ∧ Hid (∀ u ∈ ts.take k, p u = false)) (fun i _ => n - (intOf i).toNat)
  case atStart => exact ⟨0, rfl, Nat.zero_le _, Ext.rfl_ _, Lib.hid (by simp)⟩
  case round =>
    obtain ⟨k, rfl, hk, hE, HG⟩ := hrel
    by_cases cc : (k : Int) < (n : Int)
    rotate_left
    · have HR : Hid ((-1 : Int) = idxQR p ts n) := Lib.hid (by
        unfold idxQR
        have e : k = n := by omega
        have g := HG.out
        rw [e, List.take_of_length_le (by rw [HL.out.1]; omega)] at g
        rw [idxQ_none g, HL.out.1, if_neg (by omega)])
      go_wp2
      go_ret
      exact ⟨ret_int HR.out, hE⟩
    obtain ⟨b', o, A1, n1, c1, A2, n2, c2, t, rfl, ht, ⟨q0, q1, q2, q3, q4⟩, hr⟩ := (HL.out.ext hE).at_ k (by omega)
    have HT0 := Lib.hid ht
    have HT := Lib.hid hr
    have hcall := HS.out _ t wr (HK.out _ _ HI.out (hE.grownBy none)) HT.out
    have HC := Lib.hid hcall
    clear hr ht hcall
    by_cases hm : p t = true
    · have HD := Lib.hid hm
      have HR : Hid ((k : Int) = idxQR p ts n) := Lib.hid (by unfold idxQR; rw [idxQ_at HG.out HT0.out hm, if_pos (by omega)])
      clear hm
      go_wp2_with fail
      refine HC.out.mono ?_
      rintro e w1 ⟨rfl, hw1⟩
      rw [HD.out]
      go_wp2
      go_ret
      exact ⟨ret_int HR.out, hE.trans hw1⟩
    · have hm' : p t = false := by simpa using hm
      have HD := Lib.hid hm'
      have HG2 : Hid (∀ u ∈ ts.take (k + 1), p u = false) := Lib.hid (by
        have e : ts.take (k + 1) = ts.take k ++ [t] := by rw [List.take_add_one, HT0.out]; rfl
        rw [e]
        intro u hu
        rcases List.mem_append.1 hu with hu | hu
        · exact HG.out u hu
        · simp at hu; subst hu; exact hm')
      clear hm hm'
      go_wp2_with fail
      refine HC.out.mono ?_
      rintro e w1 ⟨rfl, hw1⟩
      rw [HD.out]
      go_wp2
      go_roundw
      case rel => exact ⟨k + 1, by simp, by omega, hE.trans hw1, HG2⟩
      case measure => simp [intOf]; omega

end Go.Proofs.YteooaplimiifiaaGreat
