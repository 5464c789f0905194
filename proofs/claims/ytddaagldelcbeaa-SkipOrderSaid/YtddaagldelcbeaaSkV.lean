/- What the skiplist's iterators go over. Conditions: the list is one. -/
import Derived.Test.YtddaagldelcbeaaSkQ
import Derived.Test.YtddaagldelcbeaaIter
import Derived.Test.YtddaagldelcbeaaCopyF
namespace Go.Proofs.Ytddaagldelcbeaa
set_option linter.unusedSimpArgs false
set_option linter.unusedVariables false
open Go.RowKit Go.Shelf
attribute [local go_sem] Oper.semAt_some

/-- As SeqT, of a function that takes yield at any place. -/
def SeqV {α : Type} (P : Program) (g : Nat) (mk : Value → Array Value) (Ok : α → Array Value → World → Prop) (S : Nat → Prop) (es : List α) (w : World) : Prop :=
  ∀ (n l : Nat) (J Jx : List α → (Nat → Prop) → World → Prop) (W : World), Ext w W → AbJ J → AbJ Jx →
    (∀ pre x vs (T : Nat → Prop) (W1 : World) (m : Nat), J pre T W1 → pre ++ [x] <+: es → Ok x vs W1 → (∀ k, T k → W.heap.size ≤ k ∧ k < W1.heap.size) → W.heap.size ≤ W1.heap.size →
      YieldAt Fence.wide m P l vs W1 fun en W' =>
        (en = .returned (.bool true) ∧ J (pre ++ [x]) T W' ∧ Kept (fun k => T k ∨ (k < W.heap.size ∧ ¬ S k)) W1 W') ∨ (en = .returned (.bool false) ∧ Jx (pre ++ [x]) T W' ∧ Kept T W1 W')) →
    J [] (fun _ => False) W →
    CallsIn Fence.wide n P g (mk (.func (.yield l) #[] #[])) W fun en W' => (∃ v, en = .returned v) ∧ ((∃ T, J es T W') ∨ (∃ pre T, pre <+: es ∧ Jx pre T W'))

/-- The blocks between two worlds are the iterator's own. -/
def midT (W W3 : World) (T : Nat → Prop) (k : Nat) : Prop := T k ∨ (W.heap.size ≤ k ∧ k < W3.heap.size)
theorem midT_ab {W W3 : World} {T T' : Nat → Prop} {z : Nat} (hs : ∀ k, T k → T' k) (hn : ∀ k, T' k → T k ∨ z ≤ k) : (∀ k, midT W W3 T k → midT W W3 T' k) ∧ (∀ k, midT W W3 T' k → midT W W3 T k ∨ z ≤ k) :=
  ⟨fun k h => h.imp (hs k) id, fun k h => h.elim (fun h => (hn k h).imp .inl id) (fun h => .inl (.inr h))⟩
theorem AbJ.mid {α : Type} {J : List α → (Nat → Prop) → World → Prop} (hJ : AbJ J) (W W3 : World) : AbJ (fun pre T W' => J pre (midT W W3 T) W') := by
  intro pre T T' Wa Wb h hk hs hn
  exact hJ _ _ _ _ _ h (hk.mono fun k hx h' => hx (.inl h')) (midT_ab hs hn).1 (midT_ab hs hn).2

/-- What is gone over from a later world on. -/
theorem SeqV.lift {α : Type} {P : Program} {g : Nat} {mk : Value → Array Value} {Ok : α → Array Value → World → Prop} {S : Nat → Prop} {es : List α} {w : World} (h : SeqV P g mk Ok S es w) {n l : Nat}
    {J Jx : List α → (Nat → Prop) → World → Prop} {W W3 : World} (hW : Ext w W3) (hx : Ext W W3) (hJ : AbJ J) (hJx : AbJ Jx)
    (hY : ∀ pre x vs (T : Nat → Prop) (W1 : World) (m : Nat), J pre T W1 → pre ++ [x] <+: es → Ok x vs W1 → (∀ k, T k → W.heap.size ≤ k ∧ k < W1.heap.size) → W.heap.size ≤ W1.heap.size →
      YieldAt Fence.wide m P l vs W1 fun en W' =>
        (en = .returned (.bool true) ∧ J (pre ++ [x]) T W' ∧ Kept (fun k => T k ∨ (k < W.heap.size ∧ ¬ S k)) W1 W') ∨ (en = .returned (.bool false) ∧ Jx (pre ++ [x]) T W' ∧ Kept T W1 W'))
    (h0 : J [] (fun _ => False) W) :
    CallsIn Fence.wide n P g (mk (.func (.yield l) #[] #[])) W3 fun en W' => (∃ v, en = .returned v) ∧ ((∃ T, J es T W') ∨ (∃ pre T, pre <+: es ∧ Jx pre T W')) := by
  refine (h n l (fun pre T W' => J pre (midT W W3 T) W') (fun pre T W' => Jx pre (midT W W3 T) W') W3 hW (hJ.mid W W3) (hJx.mid W W3) ?_ ?_).mono ?_
  · intro pre x vs T W1 m hj hp ho hT hz
    have := hY pre x vs (midT W W3 T) W1 m hj hp ho (fun k hk => hk.elim (fun h => ⟨Nat.le_trans hx.size (hT k h).1, (hT k h).2⟩) (fun h => ⟨h.1, Nat.lt_of_lt_of_le h.2 hz⟩)) (Nat.le_trans hx.size hz)
    obtain ⟨fn, tmps, assign, body, hy, hR⟩ := this
    refine ⟨fn, tmps, assign, body, hy, RoundIn.mono hR ?_⟩
    rintro en W' (⟨h1, h2, h3⟩ | ⟨h1, h2, h3⟩)
    · refine .inl ⟨h1, h2, h3.mono fun k hk => ?_⟩
      rcases hk with hk | ⟨hk, hs⟩
      · exact .inl (.inl hk)
      · by_cases hlt : k < W.heap.size
        · exact .inr ⟨hlt, hs⟩
        · exact .inl (.inr ⟨by omega, hk⟩)
    · exact .inr ⟨h1, h2, h3.mono fun k hk => .inl hk⟩
  · exact hJ _ _ _ _ _ h0 (Kept.of_ext hx) (fun _ h => h.elim) (fun k h => .inr (h.elim (fun h => h.elim) (fun h => h.1)))
  · rintro en W' ⟨hv, (⟨T, hj⟩ | ⟨pre, T, hp, hj⟩)⟩
    · exact ⟨hv, .inl ⟨_, hj⟩⟩
    · exact ⟨hv, .inr ⟨pre, _, hp, hj⟩⟩

/-- How far a node's address is from the row's end. -/
def farN (R : List Nd) (v : Value) : Nat := match v with | .pointer (some a) => (R.dropWhile fun nd => nd.b != a.block).length | _ => 0
theorem farN_at {C D : List Nd} {nd : Nd} (h : ∀ c ∈ C, c.b ≠ nd.b) : farN (C ++ nd :: D) (.pointer (some ⟨nd.b, 0, none⟩)) = D.length + 1 := by
  unfold farN
  simp only
  induction C with
  | nil => simp
  | cons c C ih =>
    have := h c (by simp)
    rw [List.cons_append, List.dropWhile_cons_of_pos (by simpa using this)]
    exact ih fun c hc => h c (by simp [hc])

theorem far_lt {n : Nat} {R A D : List Nd} {nd : Nd} (hR : R = A ++ nd :: D) (hn : (R.map Nd.b).Nodup) : farN R (nx n D) < farN R (.pointer (some ⟨nd.b, 0, none⟩)) := by
  have key : ∀ (A' D' : List Nd) (nd' : Nd), R = A' ++ nd' :: D' → farN R (.pointer (some ⟨nd'.b, 0, none⟩)) = D'.length + 1 := by
    intro A' D' nd' e
    rw [e]
    refine farN_at fun c hc e' => ?_
    rw [e, List.map_append, List.nodup_append] at hn
    exact hn.2.2 c.b (List.mem_map_of_mem hc) nd'.b (by simp) e'
  rw [key A D nd hR]
  rcases nx_split n D [] with ⟨C2, nd2, D2, rfl, _, _, hnx⟩ | ⟨_, hnx⟩
  · rw [List.append_nil] at hnx
    rw [hnx, ptr, key (A ++ nd :: C2) D2 nd2 (by rw [hR]; simp)]
    simp only [List.length_append, List.length_cons]; omega
  · rw [List.append_nil, nx] at hnx
    rw [hnx]
    exact Nat.succ_pos _
theorem filt_low {n : Nat} {C : List Nd} (h : ∀ c ∈ C, ht c.x ≤ n) : C.filter (fun nd => decide (n < ht nd.x)) = [] :=
  List.filter_eq_nil_iff.2 fun c hc => by have := h c hc; simp; omega

theorem FrE.mono {w : World} {base base' : Nat} {v : Value} {x : Ent} (h : FrE w base v x) (hb : base' ≤ base) : FrE w base' v x := by
  obtain ⟨A, n, c, A', n', c', rfl, o1, o2, r1, r2, a, b, c', d, e, f⟩ := h
  exact ⟨A, n, c, A', n', _, rfl, o1.mono hb, o2.mono hb, r1, r2, a, b, c', d, e.mono hb, f.mono hb⟩
/-- What is handed over is new, and the iterator keeps nothing of its own. -/
def OkH (x : Ent) (vs : Array Value) (z : Nat) (T : Nat → Prop) (W : World) : Prop := (∀ k, ¬ T k) ∧ ∃ v, vs = #[v] ∧ FrE W z v x

/-- As SeqTT, of a function that takes yield at any place. -/
def SeqVV {α : Type} (P : Program) (g : Nat) (mk : Value → Array Value) (Ok : α → Array Value → Nat → (Nat → Prop) → World → Prop) (S : Nat → Prop) (es : List α) (w : World) : Prop :=
  ∀ (n l : Nat) (J Jx : List α → (Nat → Prop) → World → Prop) (W : World), Ext w W → AbJ J → AbJ Jx →
    (∀ pre x vs (T : Nat → Prop) (W1 : World) (m : Nat), J pre T W1 → pre ++ [x] <+: es → Ok x vs W.heap.size T W1 → (∀ k, T k → W.heap.size ≤ k ∧ k < W1.heap.size) → W.heap.size ≤ W1.heap.size →
      YieldAt Fence.wide m P l vs W1 fun en W' =>
        (en = .returned (.bool true) ∧ J (pre ++ [x]) T W' ∧ Kept (fun k => T k ∨ (k < W.heap.size ∧ ¬ S k)) W1 W') ∨ (en = .returned (.bool false) ∧ Jx (pre ++ [x]) T W' ∧ Kept T W1 W')) →
    J [] (fun _ => False) W →
    CallsIn Fence.wide n P g (mk (.func (.yield l) #[] #[])) W fun en W' => (∃ v, en = .returned v) ∧ ((∃ T, J es T W') ∨ (∃ pre T, pre <+: es ∧ Jx pre T W'))

theorem OkH.n {x : Ent} {vs : Array Value} {z : Nat} {T : Nat → Prop} {W : World} (h : OkH x vs z T W) : OkN x vs W := by
  obtain ⟨_, v, rfl, hf⟩ := h
  exact ⟨v, rfl, hf.rd⟩
theorem SeqVV.n {P : Program} {g : Nat} {mk : Value → Array Value} {S : Nat → Prop} {es : List Ent} {w : World} (h : SeqVV P g mk OkH S es w) : SeqV P g mk OkN S es w :=
  fun n l J Jx W hW hJ hJx hY h0 => h n l J Jx W hW hJ hJx (fun pre x vs T W1 m hj hp ho hT hz => hY pre x vs T W1 m hj hp ho.n hT hz) h0
theorem SeqTT.n {P : Program} {g : Nat} {lb : Array Value} {S : Nat → Prop} {es : List Ent} {w : World} (h : SeqTT P g lb OkH S es w) : SeqT P g lb OkN S es w :=
  fun n l J Jx W hW hJ hJx hY h0 => h n l J Jx W hW hJ hJx (fun pre x vs T W1 m hj hp ho hT hz => hY pre x vs T W1 m hj hp ho.n hT hz) h0

set_option maxRecDepth 100000 in
set_option maxHeartbeats 4000000 in
theorem overH_seq (n : Nat) (hn : n < 8) (g h : Nat) (L Z R : List Nd) (S : Nat → Prop) (w00 w0 : World) (s : SkL w00 g h L) (hL : L = Z ++ R) (h0 : Ext w00 w0) (hS : ∀ k, S k → w00.heap.size ≤ k) :
    SeqVV Try.prog 46 (fun y => #[nx n R, .int .i64 n, y]) OkH S ((R.filter fun nd => decide (n < ht nd.x)).map Nd.x) w0 := by
  intro num l J Jx W hW hJ hJx hY hJ0
  have h0W := h0.trans hW
  have hnd : (R.map Nd.b).Nodup := by
    have := s.sk.ne
    rw [hL, List.nodup_cons, List.map_append, List.nodup_append] at this
    exact this.2.2.1
  have HS := Lib.hid s
  have HND := Lib.hid hnd
  clear s hnd
  have hn8 : (n : Int) < 8 := by omega
  have hn0 : (0 : Int) ≤ (n : Int) := by omega
  refine callsIn_of_wp Try.func46 rfl trivial ?_ rfl
  simp only [Try.ntmps46, List.size_toArray, List.length_cons, List.length_nil, Nat.reduceAdd, Nat.reduceSub, Array.replicate_succ, Array.replicate_zero, List.push_toArray, List.append_toArray, List.nil_append, List.cons_append]
  gi_wp2
  gi_loopw [0] (fun p wr => ∃ C R', R = C ++ R' ∧ p = nx n R' ∧ J ((C.filter fun nd => decide (n < ht nd.x)).map Nd.x) (fun _ => False) wr ∧ Kept (fun j => j < W.heap.size ∧ ¬ S j) W wr)
    (fun p _ => farN R p)
  case atStart => exact ⟨[], R, rfl, rfl, hJ0, Kept.rfl_ _ _⟩
  case round =>
    obtain ⟨C, R', hR, rfl, hJs, hkp⟩ := hrel
    have hzr := hkp.ext_of h0W (fun j hj => ⟨Nat.lt_of_lt_of_le hj h0W.size, fun h => by have := hS j h; omega⟩)
    rcases nx_split n R' [] with ⟨C2, nd, D, rfl, hC2, hnd, hnx⟩ | ⟨hlow, hnx⟩
    · rw [List.append_nil] at hnx
      have hnode := (HS.out.ext hzr).sk.node (Z ++ C ++ C2) nd D (by rw [hL, hR]; simp)
      obtain ⟨k0, k1, k2, k3⟩ := nod4 hnode (Ext.rfl_ _)
      have hrd := (HS.out.ext hzr).sk.rd nd (by rw [hL, hR]; simp)
      have hpre : ((C ++ C2 ++ [nd]).filter fun nd => decide (n < ht nd.x)).map Nd.x = (C.filter fun nd => decide (n < ht nd.x)).map Nd.x ++ [nd.x] := by
        rw [List.filter_append, List.filter_append, filt_low hC2, List.append_nil, List.filter_cons, if_pos (by simpa using hnd)]
        simp
      have hR2 : R = (C ++ C2) ++ nd :: D := by rw [hR]; simp
      have hpf : (C.filter fun nd => decide (n < ht nd.x)).map Nd.x ++ [nd.x] <+: (R.filter fun nd => decide (n < ht nd.x)).map Nd.x := by
        refine ⟨(D.filter fun nd => decide (n < ht nd.x)).map Nd.x, ?_⟩
        rw [← hpre, ← List.map_append, ← List.filter_append, show R = (C ++ C2 ++ [nd]) ++ D by rw [hR]; simp]
      rw [hnx]
      have HZ := Lib.hid hzr
      have HR := Lib.hid hR2
      have HPRE := Lib.hid hpre
      have HPF := Lib.hid hpf
      have HJS := Lib.hid hJs
      have HKP := Lib.hid hkp
      have HNB := Lib.hid hnd
      have HRD := Lib.hid hrd
      clear hzr hR hpre hpf hJs hkp hnd hC2 hnode hrd hnx hR2
      unfold ptr
      gi_wp2
      refine ⟨trivial, fun h => (by simp [Fence.wide] at h), ?_⟩
      refine (callsIn_wide.2 (copyF_any _ nd.x _ HRD.out)).mono ?_
      rintro e w1 ⟨v1, rfl, hv1, hw1⟩
      have HW1 := Lib.hid hw1
      have HV1 := Lib.hid hv1
      clear hw1 hv1 k0 k1 k2 k3
      gi_wp2
      obtain ⟨fn, tmps, assign, body, hy, hRd⟩ := hY _ nd.x #[v1] (fun _ => False) w1 (num - 1) (hJ _ _ _ wr w1 HJS.out (Kept.of_ext HW1.out) (fun _ h => h) (fun _ h => .inl h)) HPF.out ⟨fun _ h => h, v1, rfl, HV1.out.mono HKP.out.size⟩ (fun _ h => h.elim) (Nat.le_trans HKP.out.size HW1.out.size)
      rw [hy]
      refine ⟨fun h => (by simp [Fence.wide] at h), ?_⟩
      refine RoundIn.mono hRd ?_
      rintro e W3 hE
      rcases hE with ⟨rfl, hJ3, hk3⟩ | ⟨rfl, hJ3, hk3⟩
      · have hkk := (HKP.out.then_ HW1.out).trans (hk3.mono fun k hk => .inr hk)
        have hz3 := hkk.ext_of h0W (fun j hj => ⟨Nat.lt_of_lt_of_le hj h0W.size, fun h => by have := hS j h; omega⟩)
        have hnode := (HS.out.ext hz3).sk.node (Z ++ C ++ C2) nd D (by rw [hL, HR.out]; simp)
        have c4 : W3.cell? ⟨nd.b, 4 + n, none⟩ = some (nx n D) := by rw [nd_cell ⟨_, _, _, _, rfl⟩ hnode n hn, nxs, if_pos HNB.out]
        have HJ3 := Lib.hid hJ3
        have HKK := Lib.hid hkk
        clear hJ3 hk3 hkk hz3 hnode hy hRd
        gi_wp2
        go_roundw
        case rel => exact ⟨C ++ C2 ++ [nd], D, by rw [HR.out]; simp, rfl, by rw [HPRE.out]; exact HJ3.out, HKK.out⟩
        case measure => exact far_lt HR.out HND.out
      · have HJ3 := Lib.hid hJ3
        clear hJ3 hk3 hy hRd
        gi_wp2
        refine bodyPost_ret (results_none rfl _ _ _) rfl ?_
        exact ⟨⟨_, rfl⟩, .inr ⟨_, _, HPF.out, HJ3.out⟩⟩
    · rw [List.append_nil, nx] at hnx
      rw [hnx]
      gi_wp2
      go_end0
      refine ⟨⟨_, rfl⟩, .inl ⟨fun _ => False, ?_⟩⟩
      rw [hR, List.filter_append, filt_low hlow, List.append_nil]
      exact hJs

theorem over_seq (n : Nat) (hn : n < 8) (g h : Nat) (L Z R : List Nd) (S : Nat → Prop) (w00 w0 : World) (s : SkL w00 g h L) (hL : L = Z ++ R) (h0 : Ext w00 w0) (hS : ∀ k, S k → w00.heap.size ≤ k) :
    SeqV Try.prog 46 (fun y => #[nx n R, .int .i64 n, y]) OkN S ((R.filter fun nd => decide (n < ht nd.x)).map Nd.x) w0 :=
  (overH_seq n hn g h L Z R S w00 w0 s hL h0 hS).n

end Go.Proofs.Ytddaagldelcbeaa
