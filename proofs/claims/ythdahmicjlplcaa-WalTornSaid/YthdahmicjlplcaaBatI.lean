/- Contract of wal.After; what it goes over. Conditions: the bytes read. -/
/- The law's own 'once': it is true where the wanted ones are those behind the place. Conditions: the bytes and the list read. -/
import Derived.Test.YthdahmicjlplcaaBatH
import Derived.Test.YthdahmicjlplcaaBatC
namespace Go.Proofs.Ythdahmicjlplcaa
set_option linter.unusedSimpArgs false
set_option linter.unusedVariables false
open Go.RowKit Go.Shelf
attribute [local go_sem] Oper.semAt_some

theorem goW_len (last : Option Int) (ps : List Bs) : (goW last ps).1.length ≤ ps.length := by
  induction ps generalizing last with
  | nil => simp [goW]
  | cons p ps ih =>
    rw [goW]
    split
    · simp
    · rename_i x hx
      have h2 : ∀ (c : Prop) [Decidable c] (u : List Bat × Bool), u.1.length ≤ ps.length + 1 → (if c then (([], false) : List Bat × Bool) else u).1.length ≤ ps.length + 1 := fun c _ u hu => by
        split
        · simp
        · exact hu
      exact h2 _ _ (Nat.succ_le_succ (ih (some x.idx)))
theorem endF_len (ps : List Bs) : ps.length ≤ endF ps := by
  induction ps with
  | nil => exact Nat.le_refl _
  | cons a ps ih => simp [endF]; omega
theorem batW_len (b : Bs) : (batW b).length ≤ b.length := Nat.le_trans (goW_len _ _) (Nat.le_trans (endF_len _) (frs_le b))
/-- The batches behind a place. -/
def aftW (b : Bs) (i : Int) : List Bat := (batW b).filter fun x => decide (i < x.idx)
theorem filter_take {p : Bat → Bool} {xs : List Bat} {k : Nat} {x : Bat} (h : xs[k]? = some x) : (xs.take (k + 1)).filter p = (xs.take k).filter p ++ (if p x = true then [x] else []) := by
  rw [List.take_add_one, h, List.filter_append]
  simp only [Option.toList_some, List.filter_cons, List.filter_nil]
theorem filter_pre {p : Bat → Bool} {xs : List Bat} (k : Nat) : (xs.take k).filter p <+: xs.filter p := (List.take_prefix k xs).filter p
theorem OwnLF.keptHi {w w' : World} {base : Nat} {v : Value} {xs : List Bat} (h : OwnLF w base v xs) (k : Kept (fun j => base ≤ j ∧ j < w.heap.size) w w') : OwnLF w' base v xs := by
  refine OwnLB.stay (OwnLB.imp h fun a b e => ⟨e.1.kxB fun j cs t fr hb hj => ?_, e.2⟩) (fun g e => ?_)
  · have hl := (Array.getElem?_eq_some_iff.1 hj).1
    exact (k.block j hl ⟨hb, hl⟩).trans hj
  · obtain ⟨hb, cs, fr, hj⟩ := OwnLB.row h g e
    have hl := (Array.getElem?_eq_some_iff.1 hj).1
    exact k.block g hl ⟨hb, hl⟩
theorem OwnLF.rdl {w : World} {base : Nat} {A : Option Addr} {n c : Nat} {xs : List Bat} (h : OwnLF w base (.slice A n c) xs) (hB : xs.length ≤ B41) : n ≤ c ∧ RdLB w A n xs := by
  obtain ⟨A', n', c', e, h1, h2⟩ := h.formN hB
  cases e
  exact ⟨h1, h2⟩

set_option maxHeartbeats 400000 in
theorem wafter_any (A : Option Addr) (n c : Nat) (i : Int) (w : World) :
    Calls Try.prog 48 #[.slice A n c, .int .i64 i] w fun e w' => e = .returned (.func (.func 81) #[] #[.pointer (some ⟨w.heap.size, 0, none⟩), .pointer (some ⟨w.heap.size + 1, 0, none⟩)]) ∧ w' = (w.alloc (.cells #[.slice A n c] 29)).alloc (.cells #[.int .i64 i] 2) := by
  go_enter Try.func48, Try.ntmps48
  go_wp2
  go_ret
  exact ⟨rfl, rfl⟩

theorem bodyPost_rn {P : Program} {fn : Func} {R : Ending → World → Prop} {a : Act} {w : World} (h : bodyPost P fn R .normal a w) : bodyPost P fn R .ret a w := h
/-- What is handed over: a batch that reads. -/
def OkW (x : Bat) (vs : Array Value) (W : World) : Prop := ∃ v, vs = #[v] ∧ RdB W v x

set_option maxRecDepth 100000 in
set_option maxHeartbeats 4000000 in
theorem wafter1_seq (A : Option Addr) (n c gb gi : Nat) (b : Bs) (i : Int) (S : Nat → Prop) (w00 w0 : World) (hx : Rd w00 A n b) (hnc : n ≤ c) (hn : n ≤ 1000000) (h0 : Ext w00 w0) (hS : ∀ k, S k → w00.heap.size ≤ k)
    (hgb : w0.cell? ⟨gb, 0, none⟩ = some (.slice A n c)) (hgi : w0.cell? ⟨gi, 0, none⟩ = some (.int .i64 i)) (hgS : ¬ S gi) :
    SeqT Try.prog 81 #[.pointer (some ⟨gb, 0, none⟩), .pointer (some ⟨gi, 0, none⟩)] OkW S (aftW b i) w0 := by
  intro num l J Jx W hW hJ hJx hY hJ0
  have hb1 := hW.keeps' hgb
  have hi1 := hW.keeps' hgi
  have hiW := cell_lt hi1
  have h0W := h0.trans hW
  have hlen := batW_len b
  rw [hx.1] at hlen
  have HX := Lib.hid hx
  clear hgb hgi hx
  refine callsIn_of_wp Try.func81 rfl trivial ?_ rfl
  simp only [Try.ntmps81, List.size_toArray, List.length_cons, List.length_nil, Nat.reduceAdd, Nat.reduceSub, Array.replicate_succ, Array.replicate_zero, List.push_toArray, List.append_toArray, List.nil_append, List.cons_append]
  gi_wp2
  refine ⟨trivial, fun h => (by simp [Fence.wide] at h), ?_⟩
  refine (callsIn_wide.2 (wbatches_any A n c b _ (HX.out.ext h0W) hnc hn)).mono ?_
  rintro e w1 ⟨v, rfl, hO, hw1⟩
  obtain ⟨xs, hxs⟩ : ∃ xs, xs = batW b := ⟨_, rfl⟩
  have haf : aftW b i = xs.filter fun x => decide (i < x.idx) := by unfold aftW; rw [hxs]
  rw [← hxs] at hO hlen
  rw [haf] at hY
  have HAF := Lib.hid haf
  obtain ⟨Al, nl, cl, rfl, -, hrl⟩ := hO.formN (by unfold B41; omega)
  have hnl : xs.length = nl := hrl.1
  rw [hnl] at hlen
  obtain ⟨T, hT⟩ : ∃ T : Nat → Prop, T = fun j => W.heap.size ≤ j ∧ j < w1.heap.size := ⟨_, rfl⟩
  have HO := Lib.hid hO
  have HTT := Lib.hid (fun k => by rw [hT] : ∀ k, T k ↔ W.heap.size ≤ k ∧ k < w1.heap.size)
  have HJ1 : Hid (J [] T w1) := Lib.hid (hJ _ _ T _ w1 hJ0 (Kept.of_ext hw1) (fun _ h => h.elim) (fun k h => .inr ((HTT.out k).1 h).1))
  have HK1 : Hid (Kept (fun j => j < W.heap.size ∧ ¬ S j) W w1) := Lib.hid (Kept.of_ext hw1)
  have hn1 := Lib.hid hnl
  clear hO hrl hxs haf hT hnl hw1
  gi_wp2
  gi_loopw [17] (fun u wr => ∃ k : Nat, u = .int .i64 k ∧ k ≤ nl ∧ Hid (J ((xs.take k).filter fun x => decide (i < x.idx)) T wr) ∧ Hid (Kept (fun j => j < W.heap.size ∧ ¬ S j) W wr) ∧ Hid (Kept T w1 wr)) (fun u _ => nl - (intOf u).toNat)
  case atStart => exact ⟨0, rfl, Nat.zero_le _, HJ1, HK1, Lib.hid (Kept.rfl_ _ _)⟩
  case round =>
    obtain ⟨k, rfl, hk, HJ, HKP, HKT⟩ := hrel
    by_cases hkc : k = nl
    · subst hkc
      have HJE := Lib.hid (show J (xs.filter fun x => decide (i < x.idx)) T wr from by have := HJ.out; rwa [List.take_of_length_le (by rw [hn1.out]; exact Nat.le_refl _)] at this)
      gi_wp2
      go_end0
      exact ⟨⟨_, rfl⟩, .inl ⟨T, by rw [HAF.out]; exact HJE.out⟩⟩
    · have hkn : k < nl := by omega
      have hltc : (k : Int) < (nl : Int) := by omega
      have HOr := Lib.hid (HO.out.keptHi (HKT.out.mono fun j hj => (HTT.out j).2 hj))
      obtain ⟨_, hrdl⟩ := HOr.out.rdl (by rw [hn1.out]; unfold B41; omega)
      obtain ⟨bb, oo, A1, n1, c1, x, rfl, hxk, d0, d1, hrx, hnc1⟩ := hrdl.at_ k hkn
      have HRX := Lib.hid hrx
      have HXK := Lib.hid hxk
      have i1 := HKP.out.cell hi1 ⟨hiW, hgS⟩
      have hzr := HKP.out.size
      have hir := cell_lt i1
      have hw1r := HKT.out.size
      have hwr : IntKind.i64.wrap ((k : Int) + 1) = ((k + 1 : Nat) : Int) := by rw [IntKind.wrap_i64]; omega
      clear hrx hxk hrdl
      by_cases hgt : i < x.idx
      · have hdt : decide (i < x.idx) = true := decide_eq_true hgt
        have HF : Hid ((xs.take (k + 1)).filter (fun x => decide (i < x.idx)) = (xs.take k).filter (fun x => decide (i < x.idx)) ++ [x]) := Lib.hid (by rw [filter_take HXK.out, if_pos hdt])
        have HP : Hid ((xs.take k).filter (fun x => decide (i < x.idx)) ++ [x] <+: xs.filter fun x => decide (i < x.idx)) := Lib.hid (by rw [← HF.out]; exact filter_pre _)
        obtain ⟨wb, hwb⟩ : ∃ wb, wb = wr.alloc (.cells #[.int .i64 x.idx, .slice A1 n1 c1] 24) := ⟨_, rfl⟩
        have hxa : Ext wr wb := by rw [hwb]; exact Ext.alloc (Ext.rfl_ _) _
        have HRB : Hid (RdB wb (.agg #[.int .i64 x.idx, .slice A1 n1 c1]) x) := Lib.hid ⟨A1, n1, c1, rfl, HRX.out.ext hxa, hnc1⟩
        have HJB := Lib.hid (hJ _ _ T _ wb HJ.out (Kept.of_ext hxa) (fun _ h => h) (fun _ h => .inl h))
        have HKB := Lib.hid (HKP.out.then_ hxa)
        have HTB := Lib.hid (HKT.out.then_ hxa)
        have HZB := Lib.hid hxa.size
        clear HJ HKP HKT HRX HXK
        gi_wp2
        rw [← hwb]
        clear hwb hxa
        obtain ⟨fn, tmps, assign, body, hy, hRd⟩ := hY _ x #[.agg #[.int .i64 x.idx, .slice A1 n1 c1]] T wb (num - 1) HJB.out HP.out ⟨_, rfl, HRB.out⟩ (fun k h => ⟨((HTT.out k).1 h).1, by have := ((HTT.out k).1 h).2; have := HZB.out; omega⟩) (by have := HZB.out; omega)
        rw [hy]
        refine ⟨fun h => (by simp [Fence.wide] at h), ?_⟩
        refine RoundIn.mono hRd ?_
        rintro e W3 hE
        rcases hE with ⟨rfl, hJ3, hk3⟩ | ⟨rfl, hJ3, hk3⟩
        · have HK3 := Lib.hid (HKB.out.trans (hk3.mono fun k hk => .inr hk))
          have HT3 := Lib.hid (HTB.out.trans (hk3.mono fun k hk => .inl hk))
          have HJ3 := Lib.hid (show J ((xs.take (k + 1)).filter fun x => decide (i < x.idx)) T W3 from by rw [HF.out]; exact hJ3)
          clear hJ3 hk3 hy hRd
          gi_wp2
          go_roundw
          case rel => exact ⟨k + 1, rfl, by omega, HJ3, HK3, HT3⟩
          case measure => simp [intOf]; omega
        · have HJ3 := Lib.hid hJ3
          clear hJ3 hk3 hy hRd
          gi_wp2
          refine bodyPost_rn ?_
          go_end0
          exact ⟨⟨_, rfl⟩, .inr ⟨_, T, by rw [HAF.out]; exact HP.out, HJ3.out⟩⟩
      · have hdt : decide (i < x.idx) = false := decide_eq_false hgt
        have HF : Hid ((xs.take (k + 1)).filter (fun x => decide (i < x.idx)) = (xs.take k).filter (fun x => decide (i < x.idx))) := Lib.hid (by rw [filter_take HXK.out, if_neg (by rw [hdt]; decide), List.append_nil])
        have HJ3 := Lib.hid (show J ((xs.take (k + 1)).filter fun x => decide (i < x.idx)) T (wr.alloc (.cells #[.int .i64 x.idx, .slice A1 n1 c1] 24)) from by rw [HF.out]; exact hJ _ _ T _ _ HJ.out (Kept.of_ext (by with_reducible (repeat (first | exact Ext.rfl_ _ | assumption | refine Ext.drew ?_ | refine Ext.drewN ?_ _ | refine Ext.alloc ?_ _ | refine Ext.trans ?_ (by assumption))))) (fun _ h => h) (fun _ h => .inl h))
        have HK3 := Lib.hid (HKP.out.then_ (show Ext wr (wr.alloc (.cells #[.int .i64 x.idx, .slice A1 n1 c1] 24)) from (by with_reducible (repeat (first | exact Ext.rfl_ _ | assumption | refine Ext.drew ?_ | refine Ext.drewN ?_ _ | refine Ext.alloc ?_ _ | refine Ext.trans ?_ (by assumption))))))
        have HT3 := Lib.hid (HKT.out.then_ (show Ext wr (wr.alloc (.cells #[.int .i64 x.idx, .slice A1 n1 c1] 24)) from (by with_reducible (repeat (first | exact Ext.rfl_ _ | assumption | refine Ext.drew ?_ | refine Ext.drewN ?_ _ | refine Ext.alloc ?_ _ | refine Ext.trans ?_ (by assumption))))))
        gi_wp2
        refine ⟨fun _ h => (by cases h), ?_⟩
        gi_wp2
        go_roundw
        case rel => exact ⟨k + 1, rfl, by omega, HJ3, HK3, HT3⟩
        case measure => simp [intOf]; omega


open Go.RowKit Go.Shelf
attribute [local go_sem] Oper.semAt_some

theorem RdL.keepC {w w' : World} {A : Option Addr} {n : Nat} {xs : List Ent} (h : RdL w A n xs) (hk : ∀ b o v, w.cell? ⟨b, o, none⟩ = some v → w'.cell? ⟨b, o, none⟩ = some v) : RdL w' A n xs :=
  ⟨h.1, h.2.1, fun hn => by
    obtain ⟨b, o, e, hc⟩ := h.2.2 hn
    refine ⟨b, o, e, fun k hx => ?_⟩
    obtain ⟨A1, n1, c1, A2, n2, c2, ⟨g0, g1, g2, g3⟩, hr⟩ := hc k hx
    refine ⟨A1, n1, c1, A2, n2, c2, ⟨hk _ _ _ g0, hk _ _ _ g1, hk _ _ _ g2, hk _ _ _ g3⟩, ?_⟩
    obtain ⟨B1, m1, d1, B2, m2, d2, e, h1, h2, h3⟩ := hr
    exact ⟨B1, m1, d1, B2, m2, d2, e, h1.keep hk, h2.keep hk, h3⟩⟩
theorem RdLB.one {w : World} {g : Nat} {t : TypeId} {fr : Nat × Nat} {x : Bat} {A : Option Addr} {n c : Nat} (h : w.heap[g]? = some (.cells #[.int .i64 x.idx, .slice A n c] t fr)) (hr : RdL w A n x.es) (hc : n ≤ c) : RdLB w (some ⟨g, 0, none⟩) 1 [x] :=
  ⟨rfl, by decide, fun _ => ⟨g, 0, rfl, fun k hk => by
    obtain rfl : k = 0 := by simp at hk; exact hk
    exact ⟨A, n, c, by simp [World.cell?, h], by simp [World.cell?, h], hr, hc⟩⟩⟩
theorem RdLB.mid {w : World} {b o n k : Nat} {xs : List Bat} {x : Bat} (h : RdLB w (some ⟨b, o, none⟩) n xs) (hx : xs[k]? = some x) : RdLB w (some ⟨b, o + k * 2, none⟩) 1 [x] := by
  have hk : k < n := by rw [← h.1]; exact (List.getElem?_eq_some_iff.1 hx).1
  obtain ⟨b', o', A1, n1, c1, y, e, hy, h0, h1, h2, h3⟩ := h.at_ k hk
  cases e
  rw [hx] at hy
  cases hy
  exact ⟨rfl, by decide, fun _ => ⟨b, o + k * 2, rfl, fun j hj => by
    obtain rfl : j = 0 := by simp at hj; exact hj
    exact ⟨A1, n1, c1, by simpa using h0, by simpa using h1, h2, h3⟩⟩⟩

structure OncI (w : World) (A' : Option Addr) (n' c' : Nat) (most : Int) (pre : List Bat) (T : Nat → Prop) (Wc : World) : Prop where
  want : Wc.cell? ⟨w.heap.size, 0, none⟩ = some (.slice A' n' c')
  most_ : Wc.cell? ⟨w.heap.size + 1, 0, none⟩ = some (.int .i64 most)
  res : ∃ b, Wc.cell? ⟨w.heap.size + 1 + 1, 0, none⟩ = some (.bool b)
  resF : Wc.frozen? ⟨w.heap.size + 1 + 1, 0, none⟩ = false
  num : Wc.cell? ⟨w.heap.size + 1 + 1 + 1, 0, none⟩ = some (.int .i64 pre.length)
  numF : Wc.frozen? ⟨w.heap.size + 1 + 1 + 1, 0, none⟩ = false
  ext : Ext w Wc
  size : w.heap.size + 6 ≤ Wc.heap.size
  t : ∀ k, T k → w.heap.size + 6 ≤ k

structure OncX (w : World) (T : Nat → Prop) (Wc : World) : Prop where
  res : Wc.cell? ⟨w.heap.size + 1 + 1, 0, none⟩ = some (.bool true)
  ext : Ext w Wc
  size : w.heap.size + 6 ≤ Wc.heap.size
  t : ∀ k, T k → w.heap.size + 6 ≤ k

theorem OncI.kept {w : World} {A' : Option Addr} {n' c' : Nat} {most : Int} {pre : List Bat} {T T' : Nat → Prop} {Wc W' : World} (h : OncI w A' n' c' most pre T Wc)
    (k : Kept (fun k => k < w.heap.size + 6) Wc W') (ht : ∀ k, T' k → w.heap.size + 6 ≤ k) : OncI w A' n' c' most pre T' W' := by
  have hz := h.size
  refine ⟨k.cell h.want (by simp), k.cell h.most_ (by simp), ?_, ?_, k.cell h.num (by simp), ?_, k.ext_of h.ext (fun j hj => by omega), Nat.le_trans hz k.size, ht⟩
  · obtain ⟨b, hb⟩ := h.res; exact ⟨b, k.cell hb (by simp)⟩
  · rw [k.frozen (by simp; omega) (by simp)]; exact h.resF
  · rw [k.frozen (by simp; omega) (by simp)]; exact h.numF
theorem OncX.kept {w : World} {T T' : Nat → Prop} {Wc W' : World} (h : OncX w T Wc)
    (k : Kept (fun k => k < w.heap.size + 6) Wc W') (ht : ∀ k, T' k → w.heap.size + 6 ≤ k) : OncX w T' W' := by
  have hz := h.size
  exact ⟨k.cell h.res (by simp), k.ext_of h.ext (fun j hj => by omega), Nat.le_trans hz k.size, ht⟩

theorem OncI.ab (w : World) (A' : Option Addr) (n' c' : Nat) (most : Int) : AbI (w.heap.size + 6) (OncI w A' n' c' most) := by
  intro pre T T' Wc W' h hk hs hn
  have hz := h.size
  exact h.kept (hk.mono fun k hx => ⟨fun h' => by have := h.t _ h'; omega, by omega, by omega⟩) (fun k h' => (hn k h').elim (h.t k) (fun h => by omega))
theorem OncX.ab {α : Type} (w : World) (code : Code) : AbI (α := α) (w.heap.size + 6) (fun _ T Wc => code = .ret ∧ OncX w T Wc) := by
  rintro pre T T' Wc W' ⟨h1, h⟩ hk hs hn
  have hz := h.size
  exact ⟨h1, h.kept (hk.mono fun k hx => ⟨fun h' => by have := h.t _ h'; omega, by omega, by omega⟩) (fun k h' => (hn k h').elim (h.t k) (fun h => by omega))⟩

set_option maxRecDepth 100000 in
set_option maxHeartbeats 8000000 in
theorem once_any (A : Option Addr) (n c : Nat) (b : Bs) (i : Int) (A' : Option Addr) (n' c' : Nat) (most : Int) (w : World) (hx : Rd w A n b) (hnc : n ≤ c) (hn : n ≤ 1000000) (hw : RdLB w A' n' (aftW b i)) (hc' : n' ≤ c') :
    Calls Try.prog 21 #[.slice A n c, .int .i64 i, .slice A' n' c', .int .i64 most] w fun e w' => e = .returned (.bool true) ∧ Ext w w' := by
  refine (callsIn_wide (n := 3)).1 ?_
  have hnil := fun (w : World) (f : Fn) (x y : Array Value) => run_eql_func_nil w 74 f x y Try.underlying74
  refine callsIn_of_wp_marks Try.func21 rfl trivial ?_ rfl
  simp only [Try.ntmps21, List.size_toArray, List.length_cons, List.length_nil, Nat.reduceAdd, Nat.reduceSub, Array.replicate_succ, Array.replicate_zero, List.push_toArray, List.append_toArray, List.nil_append, List.cons_append]
  have HX := Lib.hid hx
  gi_wp2
  refine ⟨trivial, ?_⟩
  refine (callsIn_wide.2 (wafter_any A n c i _)).mono ?_
  rintro e w' ⟨rfl, rfl⟩
  gi_wp2
  obtain ⟨W1, hW1⟩ : ∃ W1, W1 = w.alloc (.cells #[.slice A' n' c'] 26) := ⟨_, rfl⟩
  obtain ⟨W2, hW2⟩ : ∃ W2, W2 = W1.alloc (.cells #[.int .i64 most] 3) := ⟨_, rfl⟩
  obtain ⟨W3, hW3⟩ : ∃ W3, W3 = W2.alloc (.cells #[.bool false] 4) := ⟨_, rfl⟩
  obtain ⟨W4, hW4⟩ : ∃ W4, W4 = W3.alloc (.cells #[.int .i64 0] 3) := ⟨_, rfl⟩
  obtain ⟨W6, hW6⟩ : ∃ W6, W6 = W4.alloc (.cells #[.slice A n c] 29) := ⟨_, rfl⟩
  obtain ⟨W5, hW5⟩ : ∃ W5, W5 = W6.alloc (.cells #[.int .i64 i] 2) := ⟨_, rfl⟩
  have z1 : W1.heap.size = w.heap.size + 1 := by rw [hW1, World.size_alloc]
  have z2 : W2.heap.size = w.heap.size + 1 + 1 := by rw [hW2, World.size_alloc, z1]
  have z3 : W3.heap.size = w.heap.size + 1 + 1 + 1 := by rw [hW3, World.size_alloc, z2]
  have z4 : W4.heap.size = w.heap.size + 1 + 1 + 1 + 1 := by rw [hW4, World.size_alloc, z3]
  have z6 : W6.heap.size = w.heap.size + 1 + 1 + 1 + 1 + 1 := by rw [hW6, World.size_alloc, z4]
  have hz5 : W5.heap.size = w.heap.size + 6 := by rw [hW5, World.size_alloc, z6]
  have x6 : Ext W6 W5 := by rw [hW5]; exact Ext.alloc (Ext.rfl_ _) _
  have x4 : Ext W4 W5 := Ext.trans (by rw [hW6]; exact Ext.alloc (Ext.rfl_ _) _) x6
  have x3 : Ext W3 W5 := Ext.trans (by rw [hW4]; exact Ext.alloc (Ext.rfl_ _) _) x4
  have x2 : Ext W2 W5 := Ext.trans (by rw [hW3]; exact Ext.alloc (Ext.rfl_ _) _) x3
  have x1 : Ext W1 W5 := Ext.trans (by rw [hW2]; exact Ext.alloc (Ext.rfl_ _) _) x2
  have x0 : Ext w W5 := Ext.trans (by rw [hW1]; exact Ext.alloc (Ext.rfl_ _) _) x1
  have q0 := cnew w (.slice A' n' c') 26
  rw [← hW1] at q0
  have q1 := cnew W1 (.int .i64 most) 3
  rw [← hW2, z1] at q1
  have q2 := cnew W2 (.bool false) 4
  rw [← hW3, z2] at q2
  have q3 := cnew W3 (.int .i64 0) 3
  rw [← hW4, z3] at q3
  have q4 := cnew W4 (.slice A n c) 29
  rw [← hW6, z4] at q4
  have q5 := cnew W6 (.int .i64 i) 2
  rw [← hW5, z6] at q5
  rw [← hW1, ← hW2, ← hW3, ← hW4, ← hW6, ← hW5]
  refine range_law (gf := 81) (lb := #[.pointer (some ⟨w.heap.size + 1 + 1 + 1 + 1, 0, none⟩), .pointer (some ⟨w.heap.size + 1 + 1 + 1 + 1 + 1, 0, none⟩)]) rfl (enters_of Try.func81 (by kernel_rfl) rfl)
    (wafter1_seq A n c _ _ b i (fun k => k = w.heap.size + 2 ∨ k = w.heap.size + 3) w W5 HX.out hnc hn x0 ?_ (x6.keeps _ _ _ q4.1) q5.1 ?_) ?_ ?_ ?_
    (OncI w A' n' c' most) (fun code _ T Wc => code = .ret ∧ OncX w T Wc) ?_ ?_ ?_ ?_ ?_ ?_
  · rintro k (rfl | rfl) <;> omega
  · omega
  · exact Ext.rfl_ _
  · rintro x vs W ⟨v, rfl, _⟩; rfl
  · rintro k (rfl | rfl) <;> omega
  · rw [hz5]; exact OncI.ab w A' n' c' most
  · intro code; rw [hz5]; exact OncX.ab w code
  · refine ⟨x1.keeps _ _ _ q0.1, x2.keeps _ _ _ q1.1, ⟨false, x3.keeps _ _ _ q2.1⟩, ?_, x4.keeps _ _ _ q3.1, ?_, x0, by omega, fun _ h => h.elim⟩
    · rw [(bcell x3).2 _ _ (by omega)]; exact q2.2
    · rw [(bcell x4).2 _ _ (by omega)]; exact q3.2
  · rintro l2 m pre x vs T Wc rfl hI hpre ⟨v, rfl, hrd⟩ hT hz hlo
    rw [hz5] at hT hz hlo
    have hlen := hw.1
    have hq := hw.2.1
    unfold B41 at hq
    have hkn : pre.length < n' := by rw [← hlen]; have := hpre.length_le; simp at this; omega
    obtain ⟨b2, o2, -, -, -, y, rfl, hy, -, -, -, -⟩ := hw.at_ pre.length hkn
    have hxy : y = x := by
      obtain ⟨t, ht⟩ := hpre
      rw [← ht] at hy
      simp at hy
      exact hy.symm
    subst hxy
    obtain ⟨A1, n1, c1, rfl, hr1, hc1⟩ := hrd
    simp only [List.zip_toArray, List.zip_cons_cons, List.zip_nil_right, List.foldl_toArray', List.foldl_cons, List.foldl_nil]
    have hI0 := Lib.hid hI
    have HY := Lib.hid (hw.mid hy)
    have HR1 := Lib.hid hr1
    clear hI hr1 hy hlen hpre
    gi_wp2
    have xb : Ext Wc (Wc.alloc (.cells #[.int .i64 y.idx, .slice A1 n1 c1] 24)) := (by with_reducible (repeat (first | exact Ext.rfl_ _ | assumption | refine Ext.drew ?_ | refine Ext.drewN ?_ _ | refine Ext.alloc ?_ _ | refine Ext.trans ?_ (by assumption))))
    refine ⟨xb, fun W2 kp2 => ?_⟩
    rw [hz5] at kp2
    have hbx := kp2.block Wc.heap.size (by simp) (by omega)
    rw [heap_alloc_new] at hbx
    have hI2 := hI0.out.kept (T' := T) ((Kept.of_ext (X := fun k => k < w.heap.size + 6) xb).trans (kp2.mono fun k hk => by omega)) hI0.out.t
    have hlo2 : ∃ r, (Wc.alloc (.cells #[.int .i64 y.idx, .slice A1 n1 c1] 24)).heap[w.heap.size + 6 + 1]? = some (.loop r) := hlo.imp fun r h => ((Ext.below xb).block _ (Array.getElem?_eq_some_iff.1 h).1).trans h
    have hR2 := (HR1.out.ext xb).keepC (fun _ _ _ hc => kp2.keep hlo2 hc)
    obtain ⟨r0, r1, _, _⟩ := box2 hbx (Ext.rfl_ W2)
    obtain ⟨i1, i2, ⟨b0, i3⟩, i4, i5, i6, i7, i8, i9⟩ := id hI2
    have hlt : (pre.length : Int) < (n' : Int) := by omega
    have hnl : decide ((n' : Int) ≤ (pre.length : Int)) = false := decide_eq_false (by omega)
    have hnl2 : decide (n' ≤ pre.length) = false := decide_eq_false (by omega)
    have hwr1 : IntKind.i64.wrap ((pre.length : Int) + 1) = (pre.length : Int) + 1 := by rw [IntKind.wrap_i64]; omega
    have hp0 : (0 : Int) ≤ (pre.length : Int) + 1 := by omega
    have hp1 : (pre.length : Int) ≤ (pre.length : Int) + 1 := by omega
    have hp2 : (pre.length : Int) + 1 ≤ (c' : Int) := by omega
    have hp3 : ¬ c' = pre.length := by omega
    have hp4 : ((pre.length : Int) + 1).toNat = pre.length + 1 := by omega
    have H2 := Lib.hid hI2
    have HR2 := Lib.hid hR2
    have HB := Lib.hid hbx
    have HC1 := Lib.hid hc1
    have l1 := cell_lt i1
    have l2' := cell_lt i2
    have l3 := cell_lt i3
    have l5 := cell_lt i5
    have lr := cell_lt r0
    clear hI2 hR2 hbx kp2 xb hlo hlo2 i7 HR1 hw hc1
    gi_wp2
    have HN := Lib.hid (fun (W : World) (e : Ext W2.drew W) => RdLB.one (x := y) (heap_alloc_new W (.cells #[.int .i64 y.idx, .slice A1 n1 c1] 24)) (HR2.out.ext (show Ext W2 _ from Ext.alloc (Ext.trans (Ext.drew (Ext.rfl_ _)) e) _)) HC1.out)
    refine wpIn_region_rnd (by kernel_rfl) (by kernel_rfl) rfl ?_
    (try (change wpAnyIn _ _ _ _ _ _ _ _ _ (World.drew _)))
    change wpAnyIn _ _ _ _ _ _ 15 #[false, false, false, false, false, false, false, false, false, false, false, false, false, false, false] _ _
    refine wpAnyIn_share ?f26 ?L26 ?a26 ?w26 (fun M26 => ?_) ?n26
    rotate_left 4
    refine wpAnyIn_share ?f25 ?L25 ?a25 ?w25 (fun M25 => ?_) ?n25
    rotate_left 4
    refine wpAnyIn_share ?f24 ?L24 ?a24 ?w24 (fun M24 => ?_) ?n24
    rotate_left 4
    refine wpAnyIn_share ?f23 ?L23 ?a23 ?w23 (fun M23 => ?_) ?n23
    rotate_left 4
    refine wpAnyIn_share ?f22 ?L22 ?a22 ?w22 (fun M22 => ?_) ?n22
    rotate_left 4
    refine wpAnyIn_share ?f21 ?L21 ?a21 ?w21 (fun M21 => ?_) ?n21
    rotate_left 4
    refine wpAnyIn_share ?f20 ?L20 ?a20 ?w20 (fun M20 => ?_) ?n20
    rotate_left 4
    refine wpAnyIn_share ?f19 ?L19 ?a19 ?w19 (fun M19 => ?_) ?n19
    rotate_left 4
    refine wpAnyIn_share ?f18 ?L18 ?a18 ?w18 (fun M18 => ?_) ?n18
    rotate_left 4
    refine wpAnyIn_share ?f17 ?L17 ?a17 ?w17 (fun M17 => ?_) ?n17
    rotate_left 4
    refine wpAnyIn_share ?f16 ?L16 ?a16 ?w16 (fun M16 => ?_) ?n16
    rotate_left 4
    refine wpAnyIn_share ?f15 ?L15 ?a15 ?w15 (fun M15 => ?_) ?n15
    rotate_left 4
    refine wpAnyIn_share ?f14 ?L14 ?a14 ?w14 (fun M14 => ?_) ?n14
    rotate_left 4
    refine wpAnyIn_share ?f13 ?L13 ?a13 ?w13 (fun M13 => ?_) ?n13
    rotate_left 4
    refine wpAnyIn_share ?f12 ?L12 ?a12 ?w12 (fun M12 => ?_) ?n12
    rotate_left 4
    refine wpAnyIn_share ?f11 ?L11 ?a11 ?w11 (fun M11 => ?_) ?n11
    rotate_left 4
    refine wpAnyIn_share ?f10 ?L10 ?a10 ?w10 (fun M10 => ?_) ?n10
    rotate_left 4
    refine wpAnyIn_share ?f9 ?L9 ?a9 ?w9 (fun M9 => ?_) ?n9
    rotate_left 4
    refine wpAnyIn_share ?f8 ?L8 ?a8 ?w8 (fun M8 => ?_) ?n8
    rotate_left 4
    refine wpAnyIn_share ?f7 ?L7 ?a7 ?w7 (fun M7 => ?_) ?n7
    rotate_left 4
    refine wpAnyIn_share ?f6 ?L6 ?a6 ?w6 (fun M6 => ?_) ?n6
    rotate_left 4
    refine wpAnyIn_share ?f5 ?L5 ?a5 ?w5 (fun M5 => ?_) ?n5
    rotate_left 4
    refine wpAnyIn_share ?f4 ?L4 ?a4 ?w4 (fun M4 => ?_) ?n4
    rotate_left 4
    refine wpAnyIn_share ?f3 ?L3 ?a3 ?w3 (fun M3 => ?_) ?n3
    rotate_left 4
    refine wpAnyIn_share ?f2 ?L2 ?a2 ?w2 (fun M2 => ?_) ?n2
    rotate_left 4
    refine wpAnyIn_share ?f1 ?L1 ?a1 ?w1 (fun M1 => ?_) ?n1
    rotate_left 4
    refine wpAnyIn_ready (rs := [0, 1]) (by kernel_rfl) (by simp) ?_
    refine AllReadyIn.cons (o := ({ dst := some 19, op := Go.Op.load 3 (Go.Operand.tmp 9), type := 3, pos := "law.go:43", after := #[], guard := none } : Go.Oper)) rfl (fun K hK => ?one27) ?more27
    case one27 =>
      go_simp
      refine hK _ _ ?_
      clear hK K
      (try simp only [Act.put, List.getElem_toArray, List.getElem_cons_zero, List.getElem_cons_succ, List.setIfInBounds_toArray, List.set_cons_zero, List.set_cons_succ])
      exact M1
    case' more27 => skip
    refine AllReadyIn.cons (o := ({ dst := some 20, op := Go.Op.load 26 (Go.Operand.tmp 6), type := 26, pos := "law.go:43", after := #[], guard := none } : Go.Oper)) rfl (fun K hK => ?_) AllReadyIn.nil
    go_simp
    refine hK _ _ ?_
    clear hK K
    (try simp only [Act.put, List.getElem_toArray, List.getElem_cons_zero, List.getElem_cons_succ, List.setIfInBounds_toArray, List.set_cons_zero, List.set_cons_succ])
    refine wpAnyIn_take (i := 2) (oi := ({ dst := some 21, op := Go.Op.call { callee := Go.Callee.builtin Go.Builtin.len, args := #[Go.Operand.tmp 20], argTypes := #[26] }, type := 3, pos := "law.go:43", after := #[{ on := 1, ground := Go.Ground.data }], guard := none } : Go.Oper)) (v := ?v28) rfl rfl (by kernel_rfl) (by kernel_rfl) (by kernel_rfl) (fun _ _ _ h => h) ⟨Or.inl ⟨by rfl, ?hy28⟩, fun _ => rfl⟩ ?rest28
    case hy28 => (intro w; go_simp; (try with_reducible rfl))
    (try simp only [Act.put, List.getElem_toArray, List.getElem_cons_zero, List.getElem_cons_succ, List.setIfInBounds_toArray, List.set_cons_zero, List.set_cons_succ])
    exact M2
    case' n1 => skip
    refine wpAnyIn_ready (rs := [1]) (by kernel_rfl) (by simp) ?_
    refine AllReadyIn.cons (o := ({ dst := some 20, op := Go.Op.load 26 (Go.Operand.tmp 6), type := 26, pos := "law.go:43", after := #[], guard := none } : Go.Oper)) rfl (fun K hK => ?_) AllReadyIn.nil
    go_simp
    refine hK _ _ ?_
    clear hK K
    (try simp only [Act.put, List.getElem_toArray, List.getElem_cons_zero, List.getElem_cons_succ, List.setIfInBounds_toArray, List.set_cons_zero, List.set_cons_succ])
    refine wpAnyIn_take (i := 2) (oi := ({ dst := some 21, op := Go.Op.call { callee := Go.Callee.builtin Go.Builtin.len, args := #[Go.Operand.tmp 20], argTypes := #[26] }, type := 3, pos := "law.go:43", after := #[{ on := 1, ground := Go.Ground.data }], guard := none } : Go.Oper)) (v := ?v29) rfl rfl (by kernel_rfl) (by kernel_rfl) (by kernel_rfl) (fun _ _ _ h => h) ⟨Or.inl ⟨by rfl, ?hy29⟩, fun _ => rfl⟩ ?rest29
    case hy29 => (intro w; go_simp; (try with_reducible rfl))
    (try simp only [Act.put, List.getElem_toArray, List.getElem_cons_zero, List.getElem_cons_succ, List.setIfInBounds_toArray, List.set_cons_zero, List.set_cons_succ])
    refine wpAnyIn_take (i := 3) (oi := ({ dst := some 22, op := Go.Op.binOp Go.BinOp.geq 3 (Go.Operand.tmp 19) (Go.Operand.tmp 21) 3, type := 4, pos := "law.go:43", after := #[{ on := 0, ground := Go.Ground.data }, { on := 2, ground := Go.Ground.data }], guard := none } : Go.Oper)) (v := ?v30) rfl rfl (by kernel_rfl) (by kernel_rfl) (by kernel_rfl) (fun _ _ _ h => h) ⟨Or.inl ⟨by rfl, ?hy30⟩, fun _ => rfl⟩ ?rest30
    case hy30 => (intro w; go_simp; (try with_reducible rfl))
    (try simp only [Act.put, List.getElem_toArray, List.getElem_cons_zero, List.getElem_cons_succ, List.setIfInBounds_toArray, List.set_cons_zero, List.set_cons_succ])
    refine wpAnyIn_take (i := 4) (oi := ({ dst := some 23, op := Go.Op.move (Go.Operand.tmp 22), type := 4, pos := "law.go:43", after := #[{ on := 3, ground := Go.Ground.data }], guard := none } : Go.Oper)) (v := ?v31) rfl rfl (by kernel_rfl) (by kernel_rfl) (by kernel_rfl) (fun _ _ _ h => h) ⟨Or.inl ⟨by rfl, ?hy31⟩, fun _ => rfl⟩ ?rest31
    case hy31 => (intro w; go_simp; (try with_reducible rfl))
    (try simp only [Act.put, List.getElem_toArray, List.getElem_cons_zero, List.getElem_cons_succ, List.setIfInBounds_toArray, List.set_cons_zero, List.set_cons_succ])
    exact M3
    case' n2 => skip
    refine wpAnyIn_ready (rs := [0]) (by kernel_rfl) (by simp) ?_
    refine AllReadyIn.cons (o := ({ dst := some 19, op := Go.Op.load 3 (Go.Operand.tmp 9), type := 3, pos := "law.go:43", after := #[], guard := none } : Go.Oper)) rfl (fun K hK => ?_) AllReadyIn.nil
    go_simp
    refine hK _ _ ?_
    clear hK K
    (try simp only [Act.put, List.getElem_toArray, List.getElem_cons_zero, List.getElem_cons_succ, List.setIfInBounds_toArray, List.set_cons_zero, List.set_cons_succ])
    refine wpAnyIn_take (i := 3) (oi := ({ dst := some 22, op := Go.Op.binOp Go.BinOp.geq 3 (Go.Operand.tmp 19) (Go.Operand.tmp 21) 3, type := 4, pos := "law.go:43", after := #[{ on := 0, ground := Go.Ground.data }, { on := 2, ground := Go.Ground.data }], guard := none } : Go.Oper)) (v := ?v32) rfl rfl (by kernel_rfl) (by kernel_rfl) (by kernel_rfl) (fun _ _ _ h => h) ⟨Or.inl ⟨by rfl, ?hy32⟩, fun _ => rfl⟩ ?rest32
    case hy32 => (intro w; go_simp; (try with_reducible rfl))
    (try simp only [Act.put, List.getElem_toArray, List.getElem_cons_zero, List.getElem_cons_succ, List.setIfInBounds_toArray, List.set_cons_zero, List.set_cons_succ])
    refine wpAnyIn_take (i := 4) (oi := ({ dst := some 23, op := Go.Op.move (Go.Operand.tmp 22), type := 4, pos := "law.go:43", after := #[{ on := 3, ground := Go.Ground.data }], guard := none } : Go.Oper)) (v := ?v33) rfl rfl (by kernel_rfl) (by kernel_rfl) (by kernel_rfl) (fun _ _ _ h => h) ⟨Or.inl ⟨by rfl, ?hy33⟩, fun _ => rfl⟩ ?rest33
    case hy33 => (intro w; go_simp; (try with_reducible rfl))
    (try simp only [Act.put, List.getElem_toArray, List.getElem_cons_zero, List.getElem_cons_succ, List.setIfInBounds_toArray, List.set_cons_zero, List.set_cons_succ])
    exact M3
    case' n3 => skip
    refine wpAnyIn_ready (rs := [5, 7, 8, 9]) (by kernel_rfl) (by simp) ?_
    refine AllReadyIn.cons (o := ({ dst := some 24, op := Go.Op.load 24 (Go.Operand.tmp 11), type := 24, pos := "law.go:43", after := #[{ on := 4, ground := Go.Ground.guard }], guard := some (4, false) } : Go.Oper)) rfl (fun K hK => ?one34) ?more34
    case one34 =>
      go_simp
      refine hK _ _ ?_
      clear hK K
      (try simp only [Act.put, List.getElem_toArray, List.getElem_cons_zero, List.getElem_cons_succ, List.setIfInBounds_toArray, List.set_cons_zero, List.set_cons_succ])
      exact M4
    case' more34 => skip
    refine AllReadyIn.cons (o := ({ dst := some 26, op := Go.Op.load 26 (Go.Operand.tmp 6), type := 26, pos := "law.go:43", after := #[{ on := 4, ground := Go.Ground.guard }], guard := some (4, false) } : Go.Oper)) rfl (fun K hK => ?one35) ?more35
    case one35 =>
      go_simp
      refine hK _ _ ?_
      clear hK K
      (try simp only [Act.put, List.getElem_toArray, List.getElem_cons_zero, List.getElem_cons_succ, List.setIfInBounds_toArray, List.set_cons_zero, List.set_cons_succ])
      exact M5
    case' more35 => skip
    refine AllReadyIn.cons (o := ({ dst := some 27, op := Go.Op.load 3 (Go.Operand.tmp 9), type := 3, pos := "law.go:43", after := #[{ on := 4, ground := Go.Ground.guard }], guard := some (4, false) } : Go.Oper)) rfl (fun K hK => ?one36) ?more36
    case one36 =>
      go_simp
      refine hK _ _ ?_
      clear hK K
      (try simp only [Act.put, List.getElem_toArray, List.getElem_cons_zero, List.getElem_cons_succ, List.setIfInBounds_toArray, List.set_cons_zero, List.set_cons_succ])
      exact M6
    case' more36 => skip
    refine AllReadyIn.cons (o := ({ dst := some 28, op := Go.Op.load 3 (Go.Operand.tmp 9), type := 3, pos := "law.go:43", after := #[{ on := 4, ground := Go.Ground.guard }], guard := some (4, false) } : Go.Oper)) rfl (fun K hK => ?_) AllReadyIn.nil
    go_simp
    refine hK _ _ ?_
    clear hK K
    (try simp only [Act.put, List.getElem_toArray, List.getElem_cons_zero, List.getElem_cons_succ, List.setIfInBounds_toArray, List.set_cons_zero, List.set_cons_succ])
    refine wpAnyIn_take (i := 10) (oi := ({ dst := some 29, op := Go.Op.binOp Go.BinOp.add 3 (Go.Operand.tmp 28) (Go.Operand.const (Go.Value.int Go.IntKind.i64 1)) 3, type := 3, pos := "law.go:43", after := #[{ on := 9, ground := Go.Ground.data }, { on := 4, ground := Go.Ground.guard }], guard := some (4, false) } : Go.Oper)) (v := ?v37) rfl rfl (by kernel_rfl) (by kernel_rfl) (by kernel_rfl) (fun _ _ _ h => h) ⟨Or.inl ⟨by rfl, ?hy37⟩, fun _ => rfl⟩ ?rest37
    case hy37 => (intro w; go_simp; (try with_reducible rfl))
    (try simp only [Act.put, List.getElem_toArray, List.getElem_cons_zero, List.getElem_cons_succ, List.setIfInBounds_toArray, List.set_cons_zero, List.set_cons_succ])
    exact M11
    case' n4 => skip
    refine wpAnyIn_ready (rs := [6, 7, 8, 9]) (by kernel_rfl) (by simp) ?_
    refine AllReadyIn.cons (o := ({ dst := some 25, op := Go.Op.buildSlice 26 1 #[(0, Go.Operand.tmp 24)], type := 26, pos := "law.go:43", after := #[{ on := 5, ground := Go.Ground.data }, { on := 4, ground := Go.Ground.guard }], guard := some (4, false) } : Go.Oper)) rfl (fun K hK => ?one38) ?more38
    case one38 =>
      go_simp
      refine hK _ _ ?_
      clear hK K
      (try simp only [Act.put, List.getElem_toArray, List.getElem_cons_zero, List.getElem_cons_succ, List.setIfInBounds_toArray, List.set_cons_zero, List.set_cons_succ])
      exact M7
    case' more38 => skip
    refine AllReadyIn.cons (o := ({ dst := some 26, op := Go.Op.load 26 (Go.Operand.tmp 6), type := 26, pos := "law.go:43", after := #[{ on := 4, ground := Go.Ground.guard }], guard := some (4, false) } : Go.Oper)) rfl (fun K hK => ?one39) ?more39
    case one39 =>
      go_simp
      refine hK _ _ ?_
      clear hK K
      (try simp only [Act.put, List.getElem_toArray, List.getElem_cons_zero, List.getElem_cons_succ, List.setIfInBounds_toArray, List.set_cons_zero, List.set_cons_succ])
      exact M8
    case' more39 => skip
    refine AllReadyIn.cons (o := ({ dst := some 27, op := Go.Op.load 3 (Go.Operand.tmp 9), type := 3, pos := "law.go:43", after := #[{ on := 4, ground := Go.Ground.guard }], guard := some (4, false) } : Go.Oper)) rfl (fun K hK => ?one40) ?more40
    case one40 =>
      go_simp
      refine hK _ _ ?_
      clear hK K
      (try simp only [Act.put, List.getElem_toArray, List.getElem_cons_zero, List.getElem_cons_succ, List.setIfInBounds_toArray, List.set_cons_zero, List.set_cons_succ])
      exact M9
    case' more40 => skip
    refine AllReadyIn.cons (o := ({ dst := some 28, op := Go.Op.load 3 (Go.Operand.tmp 9), type := 3, pos := "law.go:43", after := #[{ on := 4, ground := Go.Ground.guard }], guard := some (4, false) } : Go.Oper)) rfl (fun K hK => ?_) AllReadyIn.nil
    go_simp
    refine hK _ _ ?_
    clear hK K
    (try simp only [Act.put, List.getElem_toArray, List.getElem_cons_zero, List.getElem_cons_succ, List.setIfInBounds_toArray, List.set_cons_zero, List.set_cons_succ])
    refine wpAnyIn_take (i := 10) (oi := ({ dst := some 29, op := Go.Op.binOp Go.BinOp.add 3 (Go.Operand.tmp 28) (Go.Operand.const (Go.Value.int Go.IntKind.i64 1)) 3, type := 3, pos := "law.go:43", after := #[{ on := 9, ground := Go.Ground.data }, { on := 4, ground := Go.Ground.guard }], guard := some (4, false) } : Go.Oper)) (v := ?v41) rfl rfl (by kernel_rfl) (by kernel_rfl) (by kernel_rfl) (fun _ _ _ h => h) ⟨Or.inl ⟨by rfl, ?hy41⟩, fun _ => rfl⟩ ?rest41
    case hy41 => (intro w; go_simp; (try with_reducible rfl))
    (try simp only [Act.put, List.getElem_toArray, List.getElem_cons_zero, List.getElem_cons_succ, List.setIfInBounds_toArray, List.set_cons_zero, List.set_cons_succ])
    exact M15
    case' n5 => skip
    refine wpAnyIn_ready (rs := [5, 8, 9]) (by kernel_rfl) (by simp) ?_
    refine AllReadyIn.cons (o := ({ dst := some 24, op := Go.Op.load 24 (Go.Operand.tmp 11), type := 24, pos := "law.go:43", after := #[{ on := 4, ground := Go.Ground.guard }], guard := some (4, false) } : Go.Oper)) rfl (fun K hK => ?one42) ?more42
    case one42 =>
      go_simp
      refine hK _ _ ?_
      clear hK K
      (try simp only [Act.put, List.getElem_toArray, List.getElem_cons_zero, List.getElem_cons_succ, List.setIfInBounds_toArray, List.set_cons_zero, List.set_cons_succ])
      exact M8
    case' more42 => skip
    refine AllReadyIn.cons (o := ({ dst := some 27, op := Go.Op.load 3 (Go.Operand.tmp 9), type := 3, pos := "law.go:43", after := #[{ on := 4, ground := Go.Ground.guard }], guard := some (4, false) } : Go.Oper)) rfl (fun K hK => ?one43) ?more43
    case one43 =>
      go_simp
      refine hK _ _ ?_
      clear hK K
      (try simp only [Act.put, List.getElem_toArray, List.getElem_cons_zero, List.getElem_cons_succ, List.setIfInBounds_toArray, List.set_cons_zero, List.set_cons_succ])
      exact M10
    case' more43 => skip
    refine AllReadyIn.cons (o := ({ dst := some 28, op := Go.Op.load 3 (Go.Operand.tmp 9), type := 3, pos := "law.go:43", after := #[{ on := 4, ground := Go.Ground.guard }], guard := some (4, false) } : Go.Oper)) rfl (fun K hK => ?_) AllReadyIn.nil
    go_simp
    refine hK _ _ ?_
    clear hK K
    (try simp only [Act.put, List.getElem_toArray, List.getElem_cons_zero, List.getElem_cons_succ, List.setIfInBounds_toArray, List.set_cons_zero, List.set_cons_succ])
    refine wpAnyIn_take (i := 10) (oi := ({ dst := some 29, op := Go.Op.binOp Go.BinOp.add 3 (Go.Operand.tmp 28) (Go.Operand.const (Go.Value.int Go.IntKind.i64 1)) 3, type := 3, pos := "law.go:43", after := #[{ on := 9, ground := Go.Ground.data }, { on := 4, ground := Go.Ground.guard }], guard := some (4, false) } : Go.Oper)) (v := ?v44) rfl rfl (by kernel_rfl) (by kernel_rfl) (by kernel_rfl) (fun _ _ _ h => h) ⟨Or.inl ⟨by rfl, ?hy44⟩, fun _ => rfl⟩ ?rest44
    case hy44 => (intro w; go_simp; (try with_reducible rfl))
    (try simp only [Act.put, List.getElem_toArray, List.getElem_cons_zero, List.getElem_cons_succ, List.setIfInBounds_toArray, List.set_cons_zero, List.set_cons_succ])
    exact M16
    case' n6 => skip
    refine wpAnyIn_ready (rs := [5, 7, 9]) (by kernel_rfl) (by simp) ?_
    refine AllReadyIn.cons (o := ({ dst := some 24, op := Go.Op.load 24 (Go.Operand.tmp 11), type := 24, pos := "law.go:43", after := #[{ on := 4, ground := Go.Ground.guard }], guard := some (4, false) } : Go.Oper)) rfl (fun K hK => ?one45) ?more45
    case one45 =>
      go_simp
      refine hK _ _ ?_
      clear hK K
      (try simp only [Act.put, List.getElem_toArray, List.getElem_cons_zero, List.getElem_cons_succ, List.setIfInBounds_toArray, List.set_cons_zero, List.set_cons_succ])
      exact M9
    case' more45 => skip
    refine AllReadyIn.cons (o := ({ dst := some 26, op := Go.Op.load 26 (Go.Operand.tmp 6), type := 26, pos := "law.go:43", after := #[{ on := 4, ground := Go.Ground.guard }], guard := some (4, false) } : Go.Oper)) rfl (fun K hK => ?one46) ?more46
    case one46 =>
      go_simp
      refine hK _ _ ?_
      clear hK K
      (try simp only [Act.put, List.getElem_toArray, List.getElem_cons_zero, List.getElem_cons_succ, List.setIfInBounds_toArray, List.set_cons_zero, List.set_cons_succ])
      exact M10
    case' more46 => skip
    refine AllReadyIn.cons (o := ({ dst := some 28, op := Go.Op.load 3 (Go.Operand.tmp 9), type := 3, pos := "law.go:43", after := #[{ on := 4, ground := Go.Ground.guard }], guard := some (4, false) } : Go.Oper)) rfl (fun K hK => ?_) AllReadyIn.nil
    go_simp
    refine hK _ _ ?_
    clear hK K
    (try simp only [Act.put, List.getElem_toArray, List.getElem_cons_zero, List.getElem_cons_succ, List.setIfInBounds_toArray, List.set_cons_zero, List.set_cons_succ])
    refine wpAnyIn_take (i := 10) (oi := ({ dst := some 29, op := Go.Op.binOp Go.BinOp.add 3 (Go.Operand.tmp 28) (Go.Operand.const (Go.Value.int Go.IntKind.i64 1)) 3, type := 3, pos := "law.go:43", after := #[{ on := 9, ground := Go.Ground.data }, { on := 4, ground := Go.Ground.guard }], guard := some (4, false) } : Go.Oper)) (v := ?v47) rfl rfl (by kernel_rfl) (by kernel_rfl) (by kernel_rfl) (fun _ _ _ h => h) ⟨Or.inl ⟨by rfl, ?hy47⟩, fun _ => rfl⟩ ?rest47
    case hy47 => (intro w; go_simp; (try with_reducible rfl))
    (try simp only [Act.put, List.getElem_toArray, List.getElem_cons_zero, List.getElem_cons_succ, List.setIfInBounds_toArray, List.set_cons_zero, List.set_cons_succ])
    exact M17
    case' n7 => skip
    refine wpAnyIn_ready (rs := [7, 8, 9]) (by kernel_rfl) (by simp) ?_
    refine AllReadyIn.cons (o := ({ dst := some 26, op := Go.Op.load 26 (Go.Operand.tmp 6), type := 26, pos := "law.go:43", after := #[{ on := 4, ground := Go.Ground.guard }], guard := some (4, false) } : Go.Oper)) rfl (fun K hK => ?one48) ?more48
    case one48 =>
      go_simp
      refine hK _ _ ?_
      clear hK K
      (try simp only [Act.put, List.getElem_toArray, List.getElem_cons_zero, List.getElem_cons_succ, List.setIfInBounds_toArray, List.set_cons_zero, List.set_cons_succ])
      exact M12
    case' more48 => skip
    refine AllReadyIn.cons (o := ({ dst := some 27, op := Go.Op.load 3 (Go.Operand.tmp 9), type := 3, pos := "law.go:43", after := #[{ on := 4, ground := Go.Ground.guard }], guard := some (4, false) } : Go.Oper)) rfl (fun K hK => ?one49) ?more49
    case one49 =>
      go_simp
      refine hK _ _ ?_
      clear hK K
      (try simp only [Act.put, List.getElem_toArray, List.getElem_cons_zero, List.getElem_cons_succ, List.setIfInBounds_toArray, List.set_cons_zero, List.set_cons_succ])
      exact M13
    case' more49 => skip
    refine AllReadyIn.cons (o := ({ dst := some 28, op := Go.Op.load 3 (Go.Operand.tmp 9), type := 3, pos := "law.go:43", after := #[{ on := 4, ground := Go.Ground.guard }], guard := some (4, false) } : Go.Oper)) rfl (fun K hK => ?_) AllReadyIn.nil
    go_simp
    refine hK _ _ ?_
    clear hK K
    (try simp only [Act.put, List.getElem_toArray, List.getElem_cons_zero, List.getElem_cons_succ, List.setIfInBounds_toArray, List.set_cons_zero, List.set_cons_succ])
    refine wpAnyIn_take (i := 10) (oi := ({ dst := some 29, op := Go.Op.binOp Go.BinOp.add 3 (Go.Operand.tmp 28) (Go.Operand.const (Go.Value.int Go.IntKind.i64 1)) 3, type := 3, pos := "law.go:43", after := #[{ on := 9, ground := Go.Ground.data }, { on := 4, ground := Go.Ground.guard }], guard := some (4, false) } : Go.Oper)) (v := ?v50) rfl rfl (by kernel_rfl) (by kernel_rfl) (by kernel_rfl) (fun _ _ _ h => h) ⟨Or.inl ⟨by rfl, ?hy50⟩, fun _ => rfl⟩ ?rest50
    case hy50 => (intro w; go_simp; (try with_reducible rfl))
    (try simp only [Act.put, List.getElem_toArray, List.getElem_cons_zero, List.getElem_cons_succ, List.setIfInBounds_toArray, List.set_cons_zero, List.set_cons_succ])
    exact M19
    case' n8 => skip
    refine wpAnyIn_ready (rs := [6, 8, 9]) (by kernel_rfl) (by simp) ?_
    refine AllReadyIn.cons (o := ({ dst := some 25, op := Go.Op.buildSlice 26 1 #[(0, Go.Operand.tmp 24)], type := 26, pos := "law.go:43", after := #[{ on := 5, ground := Go.Ground.data }, { on := 4, ground := Go.Ground.guard }], guard := some (4, false) } : Go.Oper)) rfl (fun K hK => ?one51) ?more51
    case one51 =>
      go_simp
      refine hK _ _ ?_
      clear hK K
      (try simp only [Act.put, List.getElem_toArray, List.getElem_cons_zero, List.getElem_cons_succ, List.setIfInBounds_toArray, List.set_cons_zero, List.set_cons_succ])
      exact M12
    case' more51 => skip
    refine AllReadyIn.cons (o := ({ dst := some 27, op := Go.Op.load 3 (Go.Operand.tmp 9), type := 3, pos := "law.go:43", after := #[{ on := 4, ground := Go.Ground.guard }], guard := some (4, false) } : Go.Oper)) rfl (fun K hK => ?one52) ?more52
    case one52 =>
      go_simp
      refine hK _ _ ?_
      clear hK K
      (try simp only [Act.put, List.getElem_toArray, List.getElem_cons_zero, List.getElem_cons_succ, List.setIfInBounds_toArray, List.set_cons_zero, List.set_cons_succ])
      exact M14
    case' more52 => skip
    refine AllReadyIn.cons (o := ({ dst := some 28, op := Go.Op.load 3 (Go.Operand.tmp 9), type := 3, pos := "law.go:43", after := #[{ on := 4, ground := Go.Ground.guard }], guard := some (4, false) } : Go.Oper)) rfl (fun K hK => ?_) AllReadyIn.nil
    go_simp
    refine hK _ _ ?_
    clear hK K
    (try simp only [Act.put, List.getElem_toArray, List.getElem_cons_zero, List.getElem_cons_succ, List.setIfInBounds_toArray, List.set_cons_zero, List.set_cons_succ])
    refine wpAnyIn_take (i := 10) (oi := ({ dst := some 29, op := Go.Op.binOp Go.BinOp.add 3 (Go.Operand.tmp 28) (Go.Operand.const (Go.Value.int Go.IntKind.i64 1)) 3, type := 3, pos := "law.go:43", after := #[{ on := 9, ground := Go.Ground.data }, { on := 4, ground := Go.Ground.guard }], guard := some (4, false) } : Go.Oper)) (v := ?v53) rfl rfl (by kernel_rfl) (by kernel_rfl) (by kernel_rfl) (fun _ _ _ h => h) ⟨Or.inl ⟨by rfl, ?hy53⟩, fun _ => rfl⟩ ?rest53
    case hy53 => (intro w; go_simp; (try with_reducible rfl))
    (try simp only [Act.put, List.getElem_toArray, List.getElem_cons_zero, List.getElem_cons_succ, List.setIfInBounds_toArray, List.set_cons_zero, List.set_cons_succ])
    exact M20
    case' n9 => skip
    refine wpAnyIn_ready (rs := [6, 7, 9]) (by kernel_rfl) (by simp) ?_
    refine AllReadyIn.cons (o := ({ dst := some 25, op := Go.Op.buildSlice 26 1 #[(0, Go.Operand.tmp 24)], type := 26, pos := "law.go:43", after := #[{ on := 5, ground := Go.Ground.data }, { on := 4, ground := Go.Ground.guard }], guard := some (4, false) } : Go.Oper)) rfl (fun K hK => ?one54) ?more54
    case one54 =>
      go_simp
      refine hK _ _ ?_
      clear hK K
      (try simp only [Act.put, List.getElem_toArray, List.getElem_cons_zero, List.getElem_cons_succ, List.setIfInBounds_toArray, List.set_cons_zero, List.set_cons_succ])
      exact M13
    case' more54 => skip
    refine AllReadyIn.cons (o := ({ dst := some 26, op := Go.Op.load 26 (Go.Operand.tmp 6), type := 26, pos := "law.go:43", after := #[{ on := 4, ground := Go.Ground.guard }], guard := some (4, false) } : Go.Oper)) rfl (fun K hK => ?one55) ?more55
    case one55 =>
      go_simp
      refine hK _ _ ?_
      clear hK K
      (try simp only [Act.put, List.getElem_toArray, List.getElem_cons_zero, List.getElem_cons_succ, List.setIfInBounds_toArray, List.set_cons_zero, List.set_cons_succ])
      exact M14
    case' more55 => skip
    refine AllReadyIn.cons (o := ({ dst := some 28, op := Go.Op.load 3 (Go.Operand.tmp 9), type := 3, pos := "law.go:43", after := #[{ on := 4, ground := Go.Ground.guard }], guard := some (4, false) } : Go.Oper)) rfl (fun K hK => ?_) AllReadyIn.nil
    go_simp
    refine hK _ _ ?_
    clear hK K
    (try simp only [Act.put, List.getElem_toArray, List.getElem_cons_zero, List.getElem_cons_succ, List.setIfInBounds_toArray, List.set_cons_zero, List.set_cons_succ])
    refine wpAnyIn_take (i := 10) (oi := ({ dst := some 29, op := Go.Op.binOp Go.BinOp.add 3 (Go.Operand.tmp 28) (Go.Operand.const (Go.Value.int Go.IntKind.i64 1)) 3, type := 3, pos := "law.go:43", after := #[{ on := 9, ground := Go.Ground.data }, { on := 4, ground := Go.Ground.guard }], guard := some (4, false) } : Go.Oper)) (v := ?v56) rfl rfl (by kernel_rfl) (by kernel_rfl) (by kernel_rfl) (fun _ _ _ h => h) ⟨Or.inl ⟨by rfl, ?hy56⟩, fun _ => rfl⟩ ?rest56
    case hy56 => (intro w; go_simp; (try with_reducible rfl))
    (try simp only [Act.put, List.getElem_toArray, List.getElem_cons_zero, List.getElem_cons_succ, List.setIfInBounds_toArray, List.set_cons_zero, List.set_cons_succ])
    exact M21
    case' n10 => skip
    refine wpAnyIn_ready (rs := [5, 9]) (by kernel_rfl) (by simp) ?_
    refine AllReadyIn.cons (o := ({ dst := some 24, op := Go.Op.load 24 (Go.Operand.tmp 11), type := 24, pos := "law.go:43", after := #[{ on := 4, ground := Go.Ground.guard }], guard := some (4, false) } : Go.Oper)) rfl (fun K hK => ?one57) ?more57
    case one57 =>
      go_simp
      refine hK _ _ ?_
      clear hK K
      (try simp only [Act.put, List.getElem_toArray, List.getElem_cons_zero, List.getElem_cons_succ, List.setIfInBounds_toArray, List.set_cons_zero, List.set_cons_succ])
      exact M14
    case' more57 => skip
    refine AllReadyIn.cons (o := ({ dst := some 28, op := Go.Op.load 3 (Go.Operand.tmp 9), type := 3, pos := "law.go:43", after := #[{ on := 4, ground := Go.Ground.guard }], guard := some (4, false) } : Go.Oper)) rfl (fun K hK => ?_) AllReadyIn.nil
    go_simp
    refine hK _ _ ?_
    clear hK K
    (try simp only [Act.put, List.getElem_toArray, List.getElem_cons_zero, List.getElem_cons_succ, List.setIfInBounds_toArray, List.set_cons_zero, List.set_cons_succ])
    refine wpAnyIn_take (i := 10) (oi := ({ dst := some 29, op := Go.Op.binOp Go.BinOp.add 3 (Go.Operand.tmp 28) (Go.Operand.const (Go.Value.int Go.IntKind.i64 1)) 3, type := 3, pos := "law.go:43", after := #[{ on := 9, ground := Go.Ground.data }, { on := 4, ground := Go.Ground.guard }], guard := some (4, false) } : Go.Oper)) (v := ?v58) rfl rfl (by kernel_rfl) (by kernel_rfl) (by kernel_rfl) (fun _ _ _ h => h) ⟨Or.inl ⟨by rfl, ?hy58⟩, fun _ => rfl⟩ ?rest58
    case hy58 => (intro w; go_simp; (try with_reducible rfl))
    (try simp only [Act.put, List.getElem_toArray, List.getElem_cons_zero, List.getElem_cons_succ, List.setIfInBounds_toArray, List.set_cons_zero, List.set_cons_succ])
    refine wpAnyIn_take (i := 11) (oi := ({ dst := some 30, op := Go.Op.slice 26 (Go.Operand.tmp 26) (some (Go.Operand.tmp 27)) (some (Go.Operand.tmp 29)) none, type := 26, pos := "law.go:43", after := #[{ on := 7, ground := Go.Ground.data }, { on := 8, ground := Go.Ground.data }, { on := 10, ground := Go.Ground.data }, { on := 4, ground := Go.Ground.guard }], guard := some (4, false) } : Go.Oper)) (v := ?v59) rfl rfl (by kernel_rfl) (by kernel_rfl) (by kernel_rfl) (fun _ _ _ h => h) ⟨Or.inl ⟨by rfl, ?hy59⟩, fun _ => rfl⟩ ?rest59
    case hy59 => (intro w; go_simp; (try with_reducible rfl))
    (try simp only [Act.put, List.getElem_toArray, List.getElem_cons_zero, List.getElem_cons_succ, List.setIfInBounds_toArray, List.set_cons_zero, List.set_cons_succ])
    exact M24
    case' n11 => skip
    refine wpAnyIn_ready (rs := [5, 7, 8]) (by kernel_rfl) (by simp) ?_
    refine AllReadyIn.cons (o := ({ dst := some 24, op := Go.Op.load 24 (Go.Operand.tmp 11), type := 24, pos := "law.go:43", after := #[{ on := 4, ground := Go.Ground.guard }], guard := some (4, false) } : Go.Oper)) rfl (fun K hK => ?one60) ?more60
    case one60 =>
      go_simp
      refine hK _ _ ?_
      clear hK K
      (try simp only [Act.put, List.getElem_toArray, List.getElem_cons_zero, List.getElem_cons_succ, List.setIfInBounds_toArray, List.set_cons_zero, List.set_cons_succ])
      exact M15
    case' more60 => skip
    refine AllReadyIn.cons (o := ({ dst := some 26, op := Go.Op.load 26 (Go.Operand.tmp 6), type := 26, pos := "law.go:43", after := #[{ on := 4, ground := Go.Ground.guard }], guard := some (4, false) } : Go.Oper)) rfl (fun K hK => ?one61) ?more61
    case one61 =>
      go_simp
      refine hK _ _ ?_
      clear hK K
      (try simp only [Act.put, List.getElem_toArray, List.getElem_cons_zero, List.getElem_cons_succ, List.setIfInBounds_toArray, List.set_cons_zero, List.set_cons_succ])
      exact M16
    case' more61 => skip
    refine AllReadyIn.cons (o := ({ dst := some 27, op := Go.Op.load 3 (Go.Operand.tmp 9), type := 3, pos := "law.go:43", after := #[{ on := 4, ground := Go.Ground.guard }], guard := some (4, false) } : Go.Oper)) rfl (fun K hK => ?_) AllReadyIn.nil
    go_simp
    refine hK _ _ ?_
    clear hK K
    (try simp only [Act.put, List.getElem_toArray, List.getElem_cons_zero, List.getElem_cons_succ, List.setIfInBounds_toArray, List.set_cons_zero, List.set_cons_succ])
    exact M17
    case' n12 => skip
    refine wpAnyIn_ready (rs := [8, 9]) (by kernel_rfl) (by simp) ?_
    refine AllReadyIn.cons (o := ({ dst := some 27, op := Go.Op.load 3 (Go.Operand.tmp 9), type := 3, pos := "law.go:43", after := #[{ on := 4, ground := Go.Ground.guard }], guard := some (4, false) } : Go.Oper)) rfl (fun K hK => ?one62) ?more62
    case one62 =>
      go_simp
      refine hK _ _ ?_
      clear hK K
      (try simp only [Act.put, List.getElem_toArray, List.getElem_cons_zero, List.getElem_cons_succ, List.setIfInBounds_toArray, List.set_cons_zero, List.set_cons_succ])
      exact M18
    case' more62 => skip
    refine AllReadyIn.cons (o := ({ dst := some 28, op := Go.Op.load 3 (Go.Operand.tmp 9), type := 3, pos := "law.go:43", after := #[{ on := 4, ground := Go.Ground.guard }], guard := some (4, false) } : Go.Oper)) rfl (fun K hK => ?_) AllReadyIn.nil
    go_simp
    refine hK _ _ ?_
    clear hK K
    (try simp only [Act.put, List.getElem_toArray, List.getElem_cons_zero, List.getElem_cons_succ, List.setIfInBounds_toArray, List.set_cons_zero, List.set_cons_succ])
    refine wpAnyIn_take (i := 10) (oi := ({ dst := some 29, op := Go.Op.binOp Go.BinOp.add 3 (Go.Operand.tmp 28) (Go.Operand.const (Go.Value.int Go.IntKind.i64 1)) 3, type := 3, pos := "law.go:43", after := #[{ on := 9, ground := Go.Ground.data }, { on := 4, ground := Go.Ground.guard }], guard := some (4, false) } : Go.Oper)) (v := ?v63) rfl rfl (by kernel_rfl) (by kernel_rfl) (by kernel_rfl) (fun _ _ _ h => h) ⟨Or.inl ⟨by rfl, ?hy63⟩, fun _ => rfl⟩ ?rest63
    case hy63 => (intro w; go_simp; (try with_reducible rfl))
    (try simp only [Act.put, List.getElem_toArray, List.getElem_cons_zero, List.getElem_cons_succ, List.setIfInBounds_toArray, List.set_cons_zero, List.set_cons_succ])
    exact M22
    case' n13 => skip
    refine wpAnyIn_ready (rs := [7, 9]) (by kernel_rfl) (by simp) ?_
    refine AllReadyIn.cons (o := ({ dst := some 26, op := Go.Op.load 26 (Go.Operand.tmp 6), type := 26, pos := "law.go:43", after := #[{ on := 4, ground := Go.Ground.guard }], guard := some (4, false) } : Go.Oper)) rfl (fun K hK => ?one64) ?more64
    case one64 =>
      go_simp
      refine hK _ _ ?_
      clear hK K
      (try simp only [Act.put, List.getElem_toArray, List.getElem_cons_zero, List.getElem_cons_succ, List.setIfInBounds_toArray, List.set_cons_zero, List.set_cons_succ])
      exact M18
    case' more64 => skip
    refine AllReadyIn.cons (o := ({ dst := some 28, op := Go.Op.load 3 (Go.Operand.tmp 9), type := 3, pos := "law.go:43", after := #[{ on := 4, ground := Go.Ground.guard }], guard := some (4, false) } : Go.Oper)) rfl (fun K hK => ?_) AllReadyIn.nil
    go_simp
    refine hK _ _ ?_
    clear hK K
    (try simp only [Act.put, List.getElem_toArray, List.getElem_cons_zero, List.getElem_cons_succ, List.setIfInBounds_toArray, List.set_cons_zero, List.set_cons_succ])
    refine wpAnyIn_take (i := 10) (oi := ({ dst := some 29, op := Go.Op.binOp Go.BinOp.add 3 (Go.Operand.tmp 28) (Go.Operand.const (Go.Value.int Go.IntKind.i64 1)) 3, type := 3, pos := "law.go:43", after := #[{ on := 9, ground := Go.Ground.data }, { on := 4, ground := Go.Ground.guard }], guard := some (4, false) } : Go.Oper)) (v := ?v65) rfl rfl (by kernel_rfl) (by kernel_rfl) (by kernel_rfl) (fun _ _ _ h => h) ⟨Or.inl ⟨by rfl, ?hy65⟩, fun _ => rfl⟩ ?rest65
    case hy65 => (intro w; go_simp; (try with_reducible rfl))
    (try simp only [Act.put, List.getElem_toArray, List.getElem_cons_zero, List.getElem_cons_succ, List.setIfInBounds_toArray, List.set_cons_zero, List.set_cons_succ])
    exact M23
    case' n14 => skip
    refine wpAnyIn_ready (rs := [6, 9]) (by kernel_rfl) (by simp) ?_
    refine AllReadyIn.cons (o := ({ dst := some 25, op := Go.Op.buildSlice 26 1 #[(0, Go.Operand.tmp 24)], type := 26, pos := "law.go:43", after := #[{ on := 5, ground := Go.Ground.data }, { on := 4, ground := Go.Ground.guard }], guard := some (4, false) } : Go.Oper)) rfl (fun K hK => ?one66) ?more66
    case one66 =>
      go_simp
      refine hK _ _ ?_
      clear hK K
      (try simp only [Act.put, List.getElem_toArray, List.getElem_cons_zero, List.getElem_cons_succ, List.setIfInBounds_toArray, List.set_cons_zero, List.set_cons_succ])
      exact M18
    case' more66 => skip
    refine AllReadyIn.cons (o := ({ dst := some 28, op := Go.Op.load 3 (Go.Operand.tmp 9), type := 3, pos := "law.go:43", after := #[{ on := 4, ground := Go.Ground.guard }], guard := some (4, false) } : Go.Oper)) rfl (fun K hK => ?_) AllReadyIn.nil
    go_simp
    refine hK _ _ ?_
    clear hK K
    (try simp only [Act.put, List.getElem_toArray, List.getElem_cons_zero, List.getElem_cons_succ, List.setIfInBounds_toArray, List.set_cons_zero, List.set_cons_succ])
    refine wpAnyIn_take (i := 10) (oi := ({ dst := some 29, op := Go.Op.binOp Go.BinOp.add 3 (Go.Operand.tmp 28) (Go.Operand.const (Go.Value.int Go.IntKind.i64 1)) 3, type := 3, pos := "law.go:43", after := #[{ on := 9, ground := Go.Ground.data }, { on := 4, ground := Go.Ground.guard }], guard := some (4, false) } : Go.Oper)) (v := ?v67) rfl rfl (by kernel_rfl) (by kernel_rfl) (by kernel_rfl) (fun _ _ _ h => h) ⟨Or.inl ⟨by rfl, ?hy67⟩, fun _ => rfl⟩ ?rest67
    case hy67 => (intro w; go_simp; (try with_reducible rfl))
    (try simp only [Act.put, List.getElem_toArray, List.getElem_cons_zero, List.getElem_cons_succ, List.setIfInBounds_toArray, List.set_cons_zero, List.set_cons_succ])
    refine wpAnyIn_take (i := 11) (oi := ({ dst := some 30, op := Go.Op.slice 26 (Go.Operand.tmp 26) (some (Go.Operand.tmp 27)) (some (Go.Operand.tmp 29)) none, type := 26, pos := "law.go:43", after := #[{ on := 7, ground := Go.Ground.data }, { on := 8, ground := Go.Ground.data }, { on := 10, ground := Go.Ground.data }, { on := 4, ground := Go.Ground.guard }], guard := some (4, false) } : Go.Oper)) (v := ?v68) rfl rfl (by kernel_rfl) (by kernel_rfl) (by kernel_rfl) (fun _ _ _ h => h) ⟨Or.inl ⟨by rfl, ?hy68⟩, fun _ => rfl⟩ ?rest68
    case hy68 => (intro w; go_simp; (try with_reducible rfl))
    (try simp only [Act.put, List.getElem_toArray, List.getElem_cons_zero, List.getElem_cons_succ, List.setIfInBounds_toArray, List.set_cons_zero, List.set_cons_succ])
    exact M25
    case' n15 => skip
    refine wpAnyIn_ready (rs := [6, 7, 8]) (by kernel_rfl) (by simp) ?_
    refine AllReadyIn.cons (o := ({ dst := some 25, op := Go.Op.buildSlice 26 1 #[(0, Go.Operand.tmp 24)], type := 26, pos := "law.go:43", after := #[{ on := 5, ground := Go.Ground.data }, { on := 4, ground := Go.Ground.guard }], guard := some (4, false) } : Go.Oper)) rfl (fun K hK => ?one69) ?more69
    case one69 =>
      go_simp
      refine hK _ _ ?_
      clear hK K
      (try simp only [Act.put, List.getElem_toArray, List.getElem_cons_zero, List.getElem_cons_succ, List.setIfInBounds_toArray, List.set_cons_zero, List.set_cons_succ])
      exact M19
    case' more69 => skip
    refine AllReadyIn.cons (o := ({ dst := some 26, op := Go.Op.load 26 (Go.Operand.tmp 6), type := 26, pos := "law.go:43", after := #[{ on := 4, ground := Go.Ground.guard }], guard := some (4, false) } : Go.Oper)) rfl (fun K hK => ?one70) ?more70
    case one70 =>
      go_simp
      refine hK _ _ ?_
      clear hK K
      (try simp only [Act.put, List.getElem_toArray, List.getElem_cons_zero, List.getElem_cons_succ, List.setIfInBounds_toArray, List.set_cons_zero, List.set_cons_succ])
      exact M20
    case' more70 => skip
    refine AllReadyIn.cons (o := ({ dst := some 27, op := Go.Op.load 3 (Go.Operand.tmp 9), type := 3, pos := "law.go:43", after := #[{ on := 4, ground := Go.Ground.guard }], guard := some (4, false) } : Go.Oper)) rfl (fun K hK => ?_) AllReadyIn.nil
    go_simp
    refine hK _ _ ?_
    clear hK K
    (try simp only [Act.put, List.getElem_toArray, List.getElem_cons_zero, List.getElem_cons_succ, List.setIfInBounds_toArray, List.set_cons_zero, List.set_cons_succ])
    exact M21
    case' n16 => skip
    refine wpAnyIn_ready (rs := [5, 8]) (by kernel_rfl) (by simp) ?_
    refine AllReadyIn.cons (o := ({ dst := some 24, op := Go.Op.load 24 (Go.Operand.tmp 11), type := 24, pos := "law.go:43", after := #[{ on := 4, ground := Go.Ground.guard }], guard := some (4, false) } : Go.Oper)) rfl (fun K hK => ?one71) ?more71
    case one71 =>
      go_simp
      refine hK _ _ ?_
      clear hK K
      (try simp only [Act.put, List.getElem_toArray, List.getElem_cons_zero, List.getElem_cons_succ, List.setIfInBounds_toArray, List.set_cons_zero, List.set_cons_succ])
      exact M20
    case' more71 => skip
    refine AllReadyIn.cons (o := ({ dst := some 27, op := Go.Op.load 3 (Go.Operand.tmp 9), type := 3, pos := "law.go:43", after := #[{ on := 4, ground := Go.Ground.guard }], guard := some (4, false) } : Go.Oper)) rfl (fun K hK => ?_) AllReadyIn.nil
    go_simp
    refine hK _ _ ?_
    clear hK K
    (try simp only [Act.put, List.getElem_toArray, List.getElem_cons_zero, List.getElem_cons_succ, List.setIfInBounds_toArray, List.set_cons_zero, List.set_cons_succ])
    refine wpAnyIn_take (i := 11) (oi := ({ dst := some 30, op := Go.Op.slice 26 (Go.Operand.tmp 26) (some (Go.Operand.tmp 27)) (some (Go.Operand.tmp 29)) none, type := 26, pos := "law.go:43", after := #[{ on := 7, ground := Go.Ground.data }, { on := 8, ground := Go.Ground.data }, { on := 10, ground := Go.Ground.data }, { on := 4, ground := Go.Ground.guard }], guard := some (4, false) } : Go.Oper)) (v := ?v72) rfl rfl (by kernel_rfl) (by kernel_rfl) (by kernel_rfl) (fun _ _ _ h => h) ⟨Or.inl ⟨by rfl, ?hy72⟩, fun _ => rfl⟩ ?rest72
    case hy72 => (intro w; go_simp; (try with_reducible rfl))
    (try simp only [Act.put, List.getElem_toArray, List.getElem_cons_zero, List.getElem_cons_succ, List.setIfInBounds_toArray, List.set_cons_zero, List.set_cons_succ])
    exact M24
    case' n17 => skip
    refine wpAnyIn_ready (rs := [5, 7]) (by kernel_rfl) (by simp) ?_
    refine AllReadyIn.cons (o := ({ dst := some 24, op := Go.Op.load 24 (Go.Operand.tmp 11), type := 24, pos := "law.go:43", after := #[{ on := 4, ground := Go.Ground.guard }], guard := some (4, false) } : Go.Oper)) rfl (fun K hK => ?one73) ?more73
    case one73 =>
      go_simp
      refine hK _ _ ?_
      clear hK K
      (try simp only [Act.put, List.getElem_toArray, List.getElem_cons_zero, List.getElem_cons_succ, List.setIfInBounds_toArray, List.set_cons_zero, List.set_cons_succ])
      exact M21
    case' more73 => skip
    refine AllReadyIn.cons (o := ({ dst := some 26, op := Go.Op.load 26 (Go.Operand.tmp 6), type := 26, pos := "law.go:43", after := #[{ on := 4, ground := Go.Ground.guard }], guard := some (4, false) } : Go.Oper)) rfl (fun K hK => ?_) AllReadyIn.nil
    go_simp
    refine hK _ _ ?_
    clear hK K
    (try simp only [Act.put, List.getElem_toArray, List.getElem_cons_zero, List.getElem_cons_succ, List.setIfInBounds_toArray, List.set_cons_zero, List.set_cons_succ])
    refine wpAnyIn_take (i := 11) (oi := ({ dst := some 30, op := Go.Op.slice 26 (Go.Operand.tmp 26) (some (Go.Operand.tmp 27)) (some (Go.Operand.tmp 29)) none, type := 26, pos := "law.go:43", after := #[{ on := 7, ground := Go.Ground.data }, { on := 8, ground := Go.Ground.data }, { on := 10, ground := Go.Ground.data }, { on := 4, ground := Go.Ground.guard }], guard := some (4, false) } : Go.Oper)) (v := ?v74) rfl rfl (by kernel_rfl) (by kernel_rfl) (by kernel_rfl) (fun _ _ _ h => h) ⟨Or.inl ⟨by rfl, ?hy74⟩, fun _ => rfl⟩ ?rest74
    case hy74 => (intro w; go_simp; (try with_reducible rfl))
    (try simp only [Act.put, List.getElem_toArray, List.getElem_cons_zero, List.getElem_cons_succ, List.setIfInBounds_toArray, List.set_cons_zero, List.set_cons_succ])
    exact M24
    case' n18 => skip
    refine wpAnyIn_ready (rs := [9]) (by kernel_rfl) (by simp) ?_
    refine AllReadyIn.cons (o := ({ dst := some 28, op := Go.Op.load 3 (Go.Operand.tmp 9), type := 3, pos := "law.go:43", after := #[{ on := 4, ground := Go.Ground.guard }], guard := some (4, false) } : Go.Oper)) rfl (fun K hK => ?_) AllReadyIn.nil
    go_simp
    refine hK _ _ ?_
    clear hK K
    (try simp only [Act.put, List.getElem_toArray, List.getElem_cons_zero, List.getElem_cons_succ, List.setIfInBounds_toArray, List.set_cons_zero, List.set_cons_succ])
    refine wpAnyIn_take (i := 10) (oi := ({ dst := some 29, op := Go.Op.binOp Go.BinOp.add 3 (Go.Operand.tmp 28) (Go.Operand.const (Go.Value.int Go.IntKind.i64 1)) 3, type := 3, pos := "law.go:43", after := #[{ on := 9, ground := Go.Ground.data }, { on := 4, ground := Go.Ground.guard }], guard := some (4, false) } : Go.Oper)) (v := ?v75) rfl rfl (by kernel_rfl) (by kernel_rfl) (by kernel_rfl) (fun _ _ _ h => h) ⟨Or.inl ⟨by rfl, ?hy75⟩, fun _ => rfl⟩ ?rest75
    case hy75 => (intro w; go_simp; (try with_reducible rfl))
    (try simp only [Act.put, List.getElem_toArray, List.getElem_cons_zero, List.getElem_cons_succ, List.setIfInBounds_toArray, List.set_cons_zero, List.set_cons_succ])
    refine wpAnyIn_take (i := 11) (oi := ({ dst := some 30, op := Go.Op.slice 26 (Go.Operand.tmp 26) (some (Go.Operand.tmp 27)) (some (Go.Operand.tmp 29)) none, type := 26, pos := "law.go:43", after := #[{ on := 7, ground := Go.Ground.data }, { on := 8, ground := Go.Ground.data }, { on := 10, ground := Go.Ground.data }, { on := 4, ground := Go.Ground.guard }], guard := some (4, false) } : Go.Oper)) (v := ?v76) rfl rfl (by kernel_rfl) (by kernel_rfl) (by kernel_rfl) (fun _ _ _ h => h) ⟨Or.inl ⟨by rfl, ?hy76⟩, fun _ => rfl⟩ ?rest76
    case hy76 => (intro w; go_simp; (try with_reducible rfl))
    (try simp only [Act.put, List.getElem_toArray, List.getElem_cons_zero, List.getElem_cons_succ, List.setIfInBounds_toArray, List.set_cons_zero, List.set_cons_succ])
    exact M26
    case' n19 => skip
    refine wpAnyIn_ready (rs := [7, 8]) (by kernel_rfl) (by simp) ?_
    refine AllReadyIn.cons (o := ({ dst := some 26, op := Go.Op.load 26 (Go.Operand.tmp 6), type := 26, pos := "law.go:43", after := #[{ on := 4, ground := Go.Ground.guard }], guard := some (4, false) } : Go.Oper)) rfl (fun K hK => ?one77) ?more77
    case one77 =>
      go_simp
      refine hK _ _ ?_
      clear hK K
      (try simp only [Act.put, List.getElem_toArray, List.getElem_cons_zero, List.getElem_cons_succ, List.setIfInBounds_toArray, List.set_cons_zero, List.set_cons_succ])
      exact M22
    case' more77 => skip
    refine AllReadyIn.cons (o := ({ dst := some 27, op := Go.Op.load 3 (Go.Operand.tmp 9), type := 3, pos := "law.go:43", after := #[{ on := 4, ground := Go.Ground.guard }], guard := some (4, false) } : Go.Oper)) rfl (fun K hK => ?_) AllReadyIn.nil
    go_simp
    refine hK _ _ ?_
    clear hK K
    (try simp only [Act.put, List.getElem_toArray, List.getElem_cons_zero, List.getElem_cons_succ, List.setIfInBounds_toArray, List.set_cons_zero, List.set_cons_succ])
    exact M23
    case' n20 => skip
    refine wpAnyIn_ready (rs := [6, 8]) (by kernel_rfl) (by simp) ?_
    refine AllReadyIn.cons (o := ({ dst := some 25, op := Go.Op.buildSlice 26 1 #[(0, Go.Operand.tmp 24)], type := 26, pos := "law.go:43", after := #[{ on := 5, ground := Go.Ground.data }, { on := 4, ground := Go.Ground.guard }], guard := some (4, false) } : Go.Oper)) rfl (fun K hK => ?one78) ?more78
    case one78 =>
      go_simp
      refine hK _ _ ?_
      clear hK K
      (try simp only [Act.put, List.getElem_toArray, List.getElem_cons_zero, List.getElem_cons_succ, List.setIfInBounds_toArray, List.set_cons_zero, List.set_cons_succ])
      exact M22
    case' more78 => skip
    refine AllReadyIn.cons (o := ({ dst := some 27, op := Go.Op.load 3 (Go.Operand.tmp 9), type := 3, pos := "law.go:43", after := #[{ on := 4, ground := Go.Ground.guard }], guard := some (4, false) } : Go.Oper)) rfl (fun K hK => ?_) AllReadyIn.nil
    go_simp
    refine hK _ _ ?_
    clear hK K
    (try simp only [Act.put, List.getElem_toArray, List.getElem_cons_zero, List.getElem_cons_succ, List.setIfInBounds_toArray, List.set_cons_zero, List.set_cons_succ])
    refine wpAnyIn_take (i := 11) (oi := ({ dst := some 30, op := Go.Op.slice 26 (Go.Operand.tmp 26) (some (Go.Operand.tmp 27)) (some (Go.Operand.tmp 29)) none, type := 26, pos := "law.go:43", after := #[{ on := 7, ground := Go.Ground.data }, { on := 8, ground := Go.Ground.data }, { on := 10, ground := Go.Ground.data }, { on := 4, ground := Go.Ground.guard }], guard := some (4, false) } : Go.Oper)) (v := ?v79) rfl rfl (by kernel_rfl) (by kernel_rfl) (by kernel_rfl) (fun _ _ _ h => h) ⟨Or.inl ⟨by rfl, ?hy79⟩, fun _ => rfl⟩ ?rest79
    case hy79 => (intro w; go_simp; (try with_reducible rfl))
    (try simp only [Act.put, List.getElem_toArray, List.getElem_cons_zero, List.getElem_cons_succ, List.setIfInBounds_toArray, List.set_cons_zero, List.set_cons_succ])
    exact M25
    case' n21 => skip
    refine wpAnyIn_ready (rs := [6, 7]) (by kernel_rfl) (by simp) ?_
    refine AllReadyIn.cons (o := ({ dst := some 25, op := Go.Op.buildSlice 26 1 #[(0, Go.Operand.tmp 24)], type := 26, pos := "law.go:43", after := #[{ on := 5, ground := Go.Ground.data }, { on := 4, ground := Go.Ground.guard }], guard := some (4, false) } : Go.Oper)) rfl (fun K hK => ?one80) ?more80
    case one80 =>
      go_simp
      refine hK _ _ ?_
      clear hK K
      (try simp only [Act.put, List.getElem_toArray, List.getElem_cons_zero, List.getElem_cons_succ, List.setIfInBounds_toArray, List.set_cons_zero, List.set_cons_succ])
      exact M23
    case' more80 => skip
    refine AllReadyIn.cons (o := ({ dst := some 26, op := Go.Op.load 26 (Go.Operand.tmp 6), type := 26, pos := "law.go:43", after := #[{ on := 4, ground := Go.Ground.guard }], guard := some (4, false) } : Go.Oper)) rfl (fun K hK => ?_) AllReadyIn.nil
    go_simp
    refine hK _ _ ?_
    clear hK K
    (try simp only [Act.put, List.getElem_toArray, List.getElem_cons_zero, List.getElem_cons_succ, List.setIfInBounds_toArray, List.set_cons_zero, List.set_cons_succ])
    refine wpAnyIn_take (i := 11) (oi := ({ dst := some 30, op := Go.Op.slice 26 (Go.Operand.tmp 26) (some (Go.Operand.tmp 27)) (some (Go.Operand.tmp 29)) none, type := 26, pos := "law.go:43", after := #[{ on := 7, ground := Go.Ground.data }, { on := 8, ground := Go.Ground.data }, { on := 10, ground := Go.Ground.data }, { on := 4, ground := Go.Ground.guard }], guard := some (4, false) } : Go.Oper)) (v := ?v81) rfl rfl (by kernel_rfl) (by kernel_rfl) (by kernel_rfl) (fun _ _ _ h => h) ⟨Or.inl ⟨by rfl, ?hy81⟩, fun _ => rfl⟩ ?rest81
    case hy81 => (intro w; go_simp; (try with_reducible rfl))
    (try simp only [Act.put, List.getElem_toArray, List.getElem_cons_zero, List.getElem_cons_succ, List.setIfInBounds_toArray, List.set_cons_zero, List.set_cons_succ])
    exact M25
    case' n22 => skip
    refine wpAnyIn_ready (rs := [8]) (by kernel_rfl) (by simp) ?_
    refine AllReadyIn.cons (o := ({ dst := some 27, op := Go.Op.load 3 (Go.Operand.tmp 9), type := 3, pos := "law.go:43", after := #[{ on := 4, ground := Go.Ground.guard }], guard := some (4, false) } : Go.Oper)) rfl (fun K hK => ?_) AllReadyIn.nil
    go_simp
    refine hK _ _ ?_
    clear hK K
    (try simp only [Act.put, List.getElem_toArray, List.getElem_cons_zero, List.getElem_cons_succ, List.setIfInBounds_toArray, List.set_cons_zero, List.set_cons_succ])
    refine wpAnyIn_take (i := 11) (oi := ({ dst := some 30, op := Go.Op.slice 26 (Go.Operand.tmp 26) (some (Go.Operand.tmp 27)) (some (Go.Operand.tmp 29)) none, type := 26, pos := "law.go:43", after := #[{ on := 7, ground := Go.Ground.data }, { on := 8, ground := Go.Ground.data }, { on := 10, ground := Go.Ground.data }, { on := 4, ground := Go.Ground.guard }], guard := some (4, false) } : Go.Oper)) (v := ?v82) rfl rfl (by kernel_rfl) (by kernel_rfl) (by kernel_rfl) (fun _ _ _ h => h) ⟨Or.inl ⟨by rfl, ?hy82⟩, fun _ => rfl⟩ ?rest82
    case hy82 => (intro w; go_simp; (try with_reducible rfl))
    (try simp only [Act.put, List.getElem_toArray, List.getElem_cons_zero, List.getElem_cons_succ, List.setIfInBounds_toArray, List.set_cons_zero, List.set_cons_succ])
    exact M26
    case' n23 => skip
    refine wpAnyIn_ready (rs := [7]) (by kernel_rfl) (by simp) ?_
    refine AllReadyIn.cons (o := ({ dst := some 26, op := Go.Op.load 26 (Go.Operand.tmp 6), type := 26, pos := "law.go:43", after := #[{ on := 4, ground := Go.Ground.guard }], guard := some (4, false) } : Go.Oper)) rfl (fun K hK => ?_) AllReadyIn.nil
    go_simp
    refine hK _ _ ?_
    clear hK K
    (try simp only [Act.put, List.getElem_toArray, List.getElem_cons_zero, List.getElem_cons_succ, List.setIfInBounds_toArray, List.set_cons_zero, List.set_cons_succ])
    refine wpAnyIn_take (i := 11) (oi := ({ dst := some 30, op := Go.Op.slice 26 (Go.Operand.tmp 26) (some (Go.Operand.tmp 27)) (some (Go.Operand.tmp 29)) none, type := 26, pos := "law.go:43", after := #[{ on := 7, ground := Go.Ground.data }, { on := 8, ground := Go.Ground.data }, { on := 10, ground := Go.Ground.data }, { on := 4, ground := Go.Ground.guard }], guard := some (4, false) } : Go.Oper)) (v := ?v83) rfl rfl (by kernel_rfl) (by kernel_rfl) (by kernel_rfl) (fun _ _ _ h => h) ⟨Or.inl ⟨by rfl, ?hy83⟩, fun _ => rfl⟩ ?rest83
    case hy83 => (intro w; go_simp; (try with_reducible rfl))
    (try simp only [Act.put, List.getElem_toArray, List.getElem_cons_zero, List.getElem_cons_succ, List.setIfInBounds_toArray, List.set_cons_zero, List.set_cons_succ])
    exact M26
    case' n24 => skip
    refine wpAnyIn_ready (rs := [5]) (by kernel_rfl) (by simp) ?_
    refine AllReadyIn.cons (o := ({ dst := some 24, op := Go.Op.load 24 (Go.Operand.tmp 11), type := 24, pos := "law.go:43", after := #[{ on := 4, ground := Go.Ground.guard }], guard := some (4, false) } : Go.Oper)) rfl (fun K hK => ?_) AllReadyIn.nil
    go_simp
    refine hK _ _ ?_
    clear hK K
    (try simp only [Act.put, List.getElem_toArray, List.getElem_cons_zero, List.getElem_cons_succ, List.setIfInBounds_toArray, List.set_cons_zero, List.set_cons_succ])
    exact M25
    case' n25 => skip
    refine wpAnyIn_ready (rs := [6]) (by kernel_rfl) (by simp) ?_
    refine AllReadyIn.cons (o := ({ dst := some 25, op := Go.Op.buildSlice 26 1 #[(0, Go.Operand.tmp 24)], type := 26, pos := "law.go:43", after := #[{ on := 5, ground := Go.Ground.data }, { on := 4, ground := Go.Ground.guard }], guard := some (4, false) } : Go.Oper)) rfl (fun K hK => ?_) AllReadyIn.nil
    go_simp
    refine hK _ _ ?_
    clear hK K
    (try simp only [Act.put, List.getElem_toArray, List.getElem_cons_zero, List.getElem_cons_succ, List.setIfInBounds_toArray, List.set_cons_zero, List.set_cons_succ])
    exact M26
    case' n26 => skip
    refine wpAnyIn_ready (rs := [12]) (by kernel_rfl) (by simp) ?_
    refine AllReadyIn.cons (o := ({ dst := some 31, op := Go.Op.call { callee := Go.Callee.value (Go.Operand.func 15), args := #[Go.Operand.tmp 25, Go.Operand.tmp 30], argTypes := #[26, 26] }, type := 4, pos := "law.go:43", after := #[{ on := 6, ground := Go.Ground.data }, { on := 11, ground := Go.Ground.data }, { on := 4, ground := Go.Ground.chain }, { on := 4, ground := Go.Ground.guard }], guard := some (4, false) } : Go.Oper)) rfl (fun K hK => ?_) AllReadyIn.nil
    go_simp
    refine ⟨trivial, fun h => (by simp [Fence.wide] at h), ?_⟩; refine (callsIn_wide.2 (rsame13_any _ 1 1 _ 1 _ [y] [y] _ (HN.out _ (Ext.rfl_ _)) ((HY.out.ext H2.out.ext).ext (by with_reducible (repeat (first | exact Ext.rfl_ _ | assumption | refine Ext.drew ?_ | refine Ext.drewN ?_ _ | refine Ext.alloc ?_ _ | refine Ext.trans ?_ (by assumption))))))).mono ?_; rintro e w3 ⟨rfl, hw3⟩; rw [decide_eq_true rfl]
    refine hK _ _ ?_
    clear hK K
    (try simp only [Act.put, List.getElem_toArray, List.getElem_cons_zero, List.getElem_cons_succ, List.setIfInBounds_toArray, List.set_cons_zero, List.set_cons_succ])
    refine wpAnyIn_take (i := 13) (oi := ({ dst := some 32, op := Go.Op.unOp Go.UnOp.not 4 (Go.Operand.tmp 31), type := 4, pos := "law.go:43", after := #[{ on := 12, ground := Go.Ground.data }, { on := 4, ground := Go.Ground.guard }], guard := some (4, false) } : Go.Oper)) (v := ?v84) rfl rfl (by kernel_rfl) (by kernel_rfl) (by kernel_rfl) (fun _ _ _ h => h) ⟨Or.inl ⟨by rfl, ?hy84⟩, fun _ => rfl⟩ ?rest84
    case hy84 => (intro w; go_simp; (try with_reducible rfl))
    (try simp only [Act.put, List.getElem_toArray, List.getElem_cons_zero, List.getElem_cons_succ, List.setIfInBounds_toArray, List.set_cons_zero, List.set_cons_succ])
    refine wpAnyIn_take (i := 14) (oi := ({ dst := some 33, op := Go.Op.pick (Go.Operand.tmp 23) (Go.Operand.const (Go.Value.bool true)) (Go.Operand.tmp 32), type := 4, pos := "law.go:43", after := #[{ on := 4, ground := Go.Ground.data }, { on := 13, ground := Go.Ground.data }], guard := none } : Go.Oper)) (v := ?v85) rfl rfl (by kernel_rfl) (by kernel_rfl) (by kernel_rfl) (fun _ _ _ h => h) ⟨Or.inl ⟨by rfl, ?hy85⟩, fun _ => rfl⟩ ?rest85
    case hy85 => (intro w; go_simp; (try with_reducible rfl))
    (try simp only [Act.put, List.getElem_toArray, List.getElem_cons_zero, List.getElem_cons_succ, List.setIfInBounds_toArray, List.set_cons_zero, List.set_cons_succ])
    refine wpAnyIn_done (by kernel_rfl) ?_ _
    have hx3 : Ext W2 w3 := (by with_reducible (repeat (first | exact Ext.rfl_ _ | assumption | refine Ext.drew ?_ | refine Ext.drewN ?_ _ | refine Ext.alloc ?_ _ | refine Ext.trans ?_ (by assumption))))
    have k3 := H2.out.kept (T' := T) (Kept.of_ext hx3) H2.out.t
    have HX3 := Lib.hid hx3
    obtain ⟨_, j2, ⟨b1, j3⟩, j4, j5, j6, j7, j8, j9⟩ := id k3
    have H3 := Lib.hid k3
    clear i1 i2 i3 i4 i5 i6 r0 r1 k3 hx3
    by_cases hm : (pre.length : Int) + 1 = most
    · have hm1 : ((pre.length : Int) + 1 == most) = true := by simpa using hm
      clear hm
      gi_wp2
      have q1 : Kept (fun k => k ≠ w.heap.size + 1 + 1 + 1 ∧ k ≠ w.heap.size + 1 + 1) w3 ((w3.setCell ⟨w.heap.size + 1 + 1 + 1, 0, none⟩ (.int .i64 ((pre.length : Int) + 1))).setCell ⟨w.heap.size + 1 + 1, 0, none⟩ (.bool true)) := Kept.setCell (Kept.setCell (Kept.rfl_ _ _) (by simp) _) (by simp) _
      refine ⟨⟨rfl, ?_, ?_, ?_, H2.out.t⟩, ?_⟩
      · exact World.cell?_setCell_same' _ _ _ (by rw [World.cell?_setCell_other _ _ _ _ (fun e => by simp at e), j3]; rfl)
      · exact q1.ext_of j7 (fun k hk => by omega)
      · exact Nat.le_trans j8 q1.size
      · refine (Kept.of_ext HX3.out).trans (q1.mono fun k hk => ?_)
        rcases hk with h | h | h
        · have := j9 k h; omega
        · omega
        · omega
    · have hm1 : ((pre.length : Int) + 1 == most) = false := by simpa using hm
      clear hm
      gi_wp2
      have q2 : Kept (fun k => k ≠ w.heap.size + 1 + 1 + 1) w3 (w3.setCell ⟨w.heap.size + 1 + 1 + 1, 0, none⟩ (.int .i64 ((pre.length : Int) + 1))) := Kept.setCell (Kept.rfl_ _ _) (by simp) _
      have hl1 : ((pre ++ [y]).length : Int) = (pre.length : Int) + 1 := by simp
      refine ⟨⟨q2.cell H3.out.want (by dsimp only; omega), q2.cell j2 (by dsimp only; omega), ⟨b1, q2.cell j3 (by simp)⟩, ?_, ?_, ?_, q2.ext_of j7 (fun k hk => by omega), Nat.le_trans j8 q2.size, j9⟩, ?_⟩
      · rw [q2.frozen (by dsimp only; omega) (by dsimp only; omega)]; exact j4
      · rw [hl1]; exact World.cell?_setCell_same' _ _ _ (by rw [j5]; rfl)
      · rw [World.frozen?_setCell]; exact j6
      · refine (Kept.of_ext HX3.out).trans (q2.mono fun k hk => ?_)
        rcases hk with h | h
        · have := j9 k h; omega
        · intro e; exact h.2 (.inr (by omega))
  · intro T Wd hI hD
    have hlen := hw.1
    obtain ⟨i1, i2, ⟨b0, i3⟩, i4, i5, i6, i7, i8, i9⟩ := hI
    have he : (((aftW b i).length : Int) == (n' : Int)) = true := by rw [hlen]; simp
    gi_wp2
    have k1 : Kept (fun k => k ≠ w.heap.size + 1 + 1) Wd (Wd.setCell ⟨w.heap.size + 1 + 1, 0, none⟩ (.bool true)) := Kept.setCell (Kept.rfl_ _ _) (by simp) _
    have hD2 := (k1.block _ (Array.getElem?_eq_some_iff.1 hD).1 (by omega)).trans hD
    refine ⟨by simp, .inl ⟨_, _, rfl, run_takeDeferred hD2, ?_⟩⟩
    have c1 : (Wd.setCell ⟨w.heap.size + 1 + 1, 0, none⟩ (.bool true)).cell? ⟨w.heap.size + 1 + 1, 0, none⟩ = some (.bool true) := World.cell?_setCell_same' _ _ _ (by rw [i3]; rfl)
    have k2 := Kept.putObj (fun k => k ≠ W5.heap.size) (Wd.setCell ⟨w.heap.size + 1 + 1, 0, none⟩ (.bool true)) W5.heap.size (.deferred none) (by simp)
    have c2 := k2.cell c1 (by simp; omega)
    refine ⟨.bool true, ?_, rfl, ?_⟩
    · simp [results, Try.f21, go_sem, c2]
    · exact (k1.mono fun k (hk : k < w.heap.size) => by omega).trans (k2.mono fun k hk => by omega) |>.ext_of i7 (fun k hk => hk)
  · rintro code pre T Wd hp ⟨rfl, hI⟩ hD
    gi_wp2
    refine ⟨by simp, .inl ⟨_, _, rfl, run_takeDeferred hD, ?_⟩⟩
    have k2 := Kept.putObj (fun k => k ≠ W5.heap.size) Wd W5.heap.size (.deferred none) (by simp)
    have c2 := k2.cell hI.res (by simp; omega)
    refine ⟨.bool true, ?_, rfl, ?_⟩
    · simp [results, Try.f21, go_sem, c2]
    · exact k2.ext_of hI.ext (fun k hk => by omega)

end Go.Proofs.Ythdahmicjlplcaa
