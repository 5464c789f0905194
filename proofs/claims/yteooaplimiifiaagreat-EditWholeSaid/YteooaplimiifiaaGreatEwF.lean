/- A range over a function that makes nothing but new blocks (frame.All): what the body keeps may lie anywhere. Conditions: the bytes read. -/
import Derived.Test.YteooaplimiifiaaGreatFrmC
namespace Go.Proofs.YteooaplimiifiaaGreat
set_option linter.unusedSimpArgs false
set_option linter.unusedVariables false
set_option maxRecDepth 100000
open Go.RowKit
attribute [local go_sem] Oper.semAt_some

/-- Blocks of cells lie as they lay. -/
def C8 (w w' : World) : Prop := ∀ (k : Nat) (cs : Array Value) (t : TypeId) (fr : Nat × Nat), w.heap[k]? = some (Obj.cells cs t fr) → w'.heap[k]? = some (Obj.cells cs t fr)
theorem C8.of_ext {a b : World} (h : Ext a b) : C8 a b := fun k cs t fr e => ((Ext.below h).block k (Array.getElem?_eq_some_iff.1 e).1).trans e
theorem C8.putLoop {w : World} {l : Nat} {r : Loop} (h : w.heap[l]? = some (.loop r)) (o : Obj) : C8 w (w.putObj l o) := fun k cs t fr e => by
  by_cases hk : k = l
  · subst hk; rw [h] at e; cases e
  · rw [World.putObj_heap_other hk]; exact e
theorem C8.putDef {w : World} {l : Nat} {r : Option (List Deferred)} (h : w.heap[l]? = some (.deferred r)) (o : Obj) : C8 w (w.putObj l o) := fun k cs t fr e => by
  by_cases hk : k = l
  · subst hk; rw [h] at e; cases e
  · rw [World.putObj_heap_other hk]; exact e
theorem C8.keeps {w w' : World} (h : C8 w w') : ∀ b o v, w.cell? ⟨b, o, none⟩ = some v → w'.cell? ⟨b, o, none⟩ = some v := fun b o v hc => by
  unfold World.cell? at *
  generalize hb : w.heap[b]? = ob at hc
  match ob, hc, hb with
  | some (.cells cs t fr), hc, hb => simp only [h b cs t fr hb]; exact hc
  | none, hc, _ => simp at hc

/-- **THE ITERATOR's CONTRACT**: it makes new blocks only. -/
def SeqE {α : Type} (P : Program) (g : Nat) (lb : Array Value) (Ok : α → Array Value → World → Prop) (S : Nat → Prop) (es : List α) (w : World) : Prop :=
  ∀ (n l : Nat) (J Jx : List α → World → Prop) (W : World), Ext w W → (∀ pre a b, J pre a → Ext a b → J pre b) → (∀ pre a b, Jx pre a → Ext a b → Jx pre b) →
    (∀ pre x vs (W1 : World) (m : Nat), J pre W1 → pre ++ [x] <+: es → Ok x vs W1 → W.heap.size ≤ W1.heap.size →
      YieldAt Fence.wide m P l vs W1 fun en W' =>
        (en = .returned (.bool true) ∧ J (pre ++ [x]) W' ∧ Kept (fun k => k < W.heap.size ∧ ¬ S k) W1 W') ∨ (en = .returned (.bool false) ∧ Jx (pre ++ [x]) W')) →
    J [] W →
    CallsIn Fence.wide n P g (#[.func (.yield l) #[] #[]] ++ lb) W fun en W' => (∃ v, en = .returned v) ∧ (J es W' ∨ (∃ pre, pre <+: es ∧ Jx pre W'))

/-- How the body of a round may be left. -/
def postE {α : Type} (B : Nat) (S : Nat → Prop) (I : List α → World → Prop) (Ix : Code → List α → World → Prop) (xs : List α) (W : World) : Exit → Act → World → Prop
  | .normal, _, W' => I xs W' ∧ Kept (fun k => k < B + 2 ∧ ¬ S k) W W'
  | .ret, _, W' => Ix .ret xs W' ∧ Kept (fun k => k = B ∨ k = B + 1) W W'
  | .exit id, _, W' => Ix (.exit id) xs W' ∧ Kept (fun k => k = B ∨ k = B + 1) W W'
  | .goto t, _, W' => Ix (.goto t) xs W' ∧ Kept (fun k => k = B ∨ k = B + 1) W W'
  | .panic _, _, _ => False
  | .outgrown, _, _ => False

/-- The caller's invariant speaks of nothing but cells, and not of the loop's two blocks of book-keeping. -/
def AbIE {α : Type} (B : Nat) (I : List α → World → Prop) : Prop :=
  ∀ pre (W W' : World), I pre W → Kept (fun k => k ≠ B ∧ k ≠ B + 1) W W' → C8 W W' → I pre W'
theorem AbIE.put {α : Type} {B : Nat} {I : List α → World → Prop} (h : AbIE B I) {pre : List α} {W : World} (hi : I pre W) {r : Loop} (hl : W.heap[B + 1]? = some (.loop r)) (o : Obj) : I pre (W.putObj (B + 1) o) :=
  h pre W _ hi (Kept.putObj _ _ _ _ (by simp)) (C8.putLoop hl o)
theorem AbIE.ext {α : Type} {B : Nat} {I : List α → World → Prop} (h : AbIE B I) {pre : List α} {W W' : World} (hi : I pre W) (hx : Ext W W') : I pre W' :=
  h pre W _ hi (Kept.of_ext hx) (C8.of_ext hx)

variable {P : Program}

/-- **THE CALLER's LAW.** -/
theorem range_lawE {α : Type} {n : Nat} {g : Operand} {ps : Array Tmp} {assign body : Code} {Q : Exit → Act → World → Prop} {a : Act} {w : World}
    {gf : Nat} {lb : Array Value} (hg : a.eval g = .func (.func gf) #[] lb) (eg : ∀ args w, (callFunc gf args).run P w = .ok (.enter gf args) w)
    {Ok : α → Array Value → World → Prop} {S : Nat → Prop} {es : List α} {w0 : World} (hseq : SeqE P gf lb Ok S es w0) (hb0 : Ext w0 w) (hps : ∀ x vs W, Ok x vs W → vs.size = ps.size) (hS : ∀ k, S k → k < w.heap.size)
    (I : List α → World → Prop) (Ix : Code → List α → World → Prop) (hI : AbIE w.heap.size I) (hIx : ∀ c, AbIE w.heap.size (Ix c)) (h0 : I [] w)
    (hround : ∀ (l : Nat) (m : Nat) (pre : List α) (x : α) (vs : Array Value) (W : World), l = w.heap.size + 1 → I pre W → pre ++ [x] <+: es → Ok x vs W → w.heap.size + 2 ≤ W.heap.size → (∃ r, W.heap[w.heap.size + 1]? = some (.loop r)) →
      assign.wpIn (Fence.wide.inRound l) m P (Exit.then (fun a' W' => Ext W W' ∧ ∀ W2, Kept (fun k => k ≠ w.heap.size + 1) W' W2 → C8 W' W2 → body.wpIn (Fence.wide.inRound l) m P (postE w.heap.size S I Ix (pre ++ [x]) W2) a' W2) (fun _ _ _ => False))
        { tmps := (ps.zip vs).foldl (fun t (p, v) => t.setIfInBounds p v) a.tmps, defers := [] } W)
    (hdone : ∀ (W : World), I es W → W.heap[w.heap.size]? = some (.deferred (some [])) → Q .normal { a with defers := { target := .collected w.heap.size, args := #[] } :: a.defers } W)
    (hstop : ∀ (c : Code) (pre : List α) (W : World), pre <+: es → Ix c pre W → W.heap[w.heap.size]? = some (.deferred (some [])) → c.wpIn Fence.wide n P Q { a with defers := { target := .collected w.heap.size, args := #[] } :: a.defers } W) :
    (Code.rangeFunc g ps assign body).wpIn Fence.wide n P Q a w := by
  refine wpIn_rangeFunc ?_
  intro fn hfn
  -- the record, as it stands in each state
  let rec_ : LoopState → Option Code → Loop := fun st pe => { state := st, pending := pe, fn, tmps := a.tmps, params := ps, assign, body, defers := w.heap.size }
  have hW1 : ∃ W1, W1 = (w.alloc (.deferred (some []))).alloc (.loop (rec_ .ready none)) := ⟨_, rfl⟩
  obtain ⟨W1, hW1⟩ := hW1
  have hx1 : Ext w W1 := by rw [hW1]; exact Ext.alloc (Ext.alloc (Ext.rfl_ w) _) _
  have hz1 : W1.heap.size = w.heap.size + 2 := by rw [hW1]; simp
  have hL1 : W1.heap[w.heap.size + 1]? = some (.loop (rec_ .ready none)) := by
    have := World.alloc_heap_new (w.alloc (.deferred (some []))) (.loop (rec_ .ready none))
    rw [World.size_alloc] at this
    rw [hW1]; exact this
  have hD1 : W1.heap[w.heap.size]? = some (.deferred (some [])) := by
    rw [hW1]; exact (Below.heap_alloc _ _ _ (by simp)).trans (World.alloc_heap_new w _)
  -- what the iterator is handed as the body's invariant
  let J : List α → World → Prop := fun pre W => I pre W ∧ W.heap[w.heap.size + 1]? = some (.loop (rec_ .ready none)) ∧ W.heap[w.heap.size]? = some (.deferred (some []))
  let Jx : List α → World → Prop := fun pre W => ∃ c, Ix c pre W ∧ W.heap[w.heap.size + 1]? = some (.loop (rec_ .done (some c))) ∧ W.heap[w.heap.size]? = some (.deferred (some []))
  have there : ∀ {W : World} {k : Nat} {o : Obj}, W.heap[k]? = some o → k < W.heap.size := fun h => (Array.getElem?_eq_some_iff.1 h).1
  have hJ : ∀ pre a b, J pre a → Ext a b → J pre b := by
    rintro pre W W' ⟨hi, hl, hd⟩ hx
    exact ⟨hI.ext hi hx, ((Ext.below hx).block _ (there hl)).trans hl, ((Ext.below hx).block _ (there hd)).trans hd⟩
  have hJx : ∀ pre a b, Jx pre a → Ext a b → Jx pre b := by
    rintro pre W W' ⟨c, hi, hl, hd⟩ hx
    exact ⟨c, (hIx c).ext hi hx, ((Ext.below hx).block _ (there hl)).trans hl, ((Ext.below hx).block _ (there hd)).trans hd⟩
  have hI1 : I [] W1 := hI.ext h0 hx1
  refine ⟨w.heap.size + 1, [{ target := .collected w.heap.size, args := #[] }], W1, { target := .fn (.func gf) lb, args := #[.func (.yield (w.heap.size + 1)) #[] #[]] }, W1, gf,
    #[.func (.yield (w.heap.size + 1)) #[] #[]] ++ lb, W1, ?_, ?_, fun f' _ => trivial, ?_, fun h => by simp [Fence.wide] at h, ?_⟩
  · rw [hW1]; exact run_enterLoop_outer _ _ _ _ _
  · simp only [resolve, hg]
    simp [go_sem]
  · simp [invoke, go_sem, eg]
  refine (hseq (n - 1) (w.heap.size + 1) J Jx W1 (hb0.trans hx1) hJ hJx ?_ ⟨hI1, hL1, hD1⟩).mono ?_
  · -- one round
    rintro pre x vs W m ⟨hi, hl, hd⟩ hpre hok hsz
    rw [hz1] at hsz
    have hy := run_yield (P := P) (args := vs) hl (hps x vs W hok)
    refine ⟨fn, _, assign, body, hy, roundIn_of_wpIn hfn ?_⟩
    refine wpIn_mono (hround _ m pre x vs W rfl hi hpre hok hsz ⟨_, hl⟩) ?_
    rintro e a' W' hp
    cases e with
    | normal =>
      obtain ⟨hex, hbody⟩ := hp
      have hl' := ((Ext.below hex).block _ (there hl)).trans hl
      have hd' := ((Ext.below hex).block _ (there hd)).trans hd
      refine ⟨_, run_beginRound hl' rfl, ?_⟩
      have hk2 : Kept (fun k => k ≠ w.heap.size + 1) W' (W'.putObj (w.heap.size + 1) (.loop { rec_ .ready none with state := .busy })) := Kept.putObj _ _ _ _ (by simp)
      have hl2 := World.putObj_heap_same (w := W') (o := .loop { rec_ .ready none with state := .busy }) (there hl')
      have hd2 := (hk2.block _ (there hd') (by simp)).trans hd'
      have hl3 : ∀ (W3 : World), Kept (fun k => k = w.heap.size ∨ k = w.heap.size + 1) (W'.putObj (w.heap.size + 1) (.loop { rec_ .ready none with state := .busy })) W3 → W3.heap[w.heap.size + 1]? = some (.loop { rec_ .ready none with state := .busy }) := fun W3 h3 => (h3.block _ (there hl2) (.inr rfl)).trans hl2
      -- what the round's end makes of the record
      have fin : ∀ (jump : Option Code) (W3 : World), Kept (fun k => k = w.heap.size ∨ k = w.heap.size + 1) (W'.putObj (w.heap.size + 1) (.loop { rec_ .ready none with state := .busy })) W3 →
          (Instr.endRound (w.heap.size + 1) jump).run P W3 = .ok (.bool jump.isNone) (W3.putObj (w.heap.size + 1) (.loop (rec_ (if jump.isNone then .ready else .done) jump))) ∧
          (W3.putObj (w.heap.size + 1) (.loop (rec_ (if jump.isNone then .ready else .done) jump))).heap[w.heap.size + 1]? = some (.loop (rec_ (if jump.isNone then .ready else .done) jump)) ∧
          (W3.putObj (w.heap.size + 1) (.loop (rec_ (if jump.isNone then .ready else .done) jump))).heap[w.heap.size]? = some (.deferred (some [])) := by
        intro jump W3 h3
        have hl3 := (h3.block _ (there hl2) (.inr rfl)).trans hl2
        have hd3 := (h3.block _ (there hd2) (.inl rfl)).trans hd2
        exact ⟨run_endRound jump hl3, World.putObj_heap_same (there hl3), (World.putObj_heap_other (by omega)).trans hd3⟩
      refine wpIn_mono (hbody _ hk2 (C8.putLoop hl' _)) ?_
      rintro e a3 W3 hp
      cases e with
      | normal =>
        obtain ⟨hi3, hk3⟩ := hp
        obtain ⟨hr, hl4, hd4⟩ := fin none W3 (hk3.mono fun k hk => hk.elim (fun e => ⟨by omega, fun h' => by have := hS _ h'; omega⟩) (fun e => ⟨by omega, fun h' => by have := hS _ h'; omega⟩))
        refine ⟨_, _, hr, .inl ⟨rfl, ⟨hI.put hi3 (hl3 W3 (hk3.mono fun k hk => hk.elim (fun e => ⟨by omega, fun h' => by have := hS _ h'; omega⟩) (fun e => ⟨by omega, fun h' => by have := hS _ h'; omega⟩))) _, hl4, hd4⟩, ?_⟩⟩
        have hK : Kept (fun k => (k < w.heap.size + 2 ∧ ¬ S k) ∧ k ≠ w.heap.size + 1) W (W3.putObj (w.heap.size + 1) (.loop (rec_ .ready none))) :=
          (((Kept.of_ext hex).trans (hk2.mono fun k hk => hk.2)).trans (hk3.mono fun k hk => hk.1)).trans (Kept.putObj _ _ _ _ (by simp))
        refine ⟨hK.os, hK.tape, hK.output, hK.size, fun k hk hx => ?_⟩
        rw [hz1] at hx
        by_cases e : k = w.heap.size + 1
        · rw [e]; exact hl4.trans hl.symm
        · exact hK.block k hk ⟨hx, e⟩
      | ret =>
        obtain ⟨hi3, hk3⟩ := hp
        obtain ⟨hr, hl4, hd4⟩ := fin (some .ret) W3 hk3
        exact ⟨_, _, hr, .inr ⟨rfl, ⟨.ret, (hIx _).put hi3 (hl3 W3 hk3) _, hl4, hd4⟩⟩⟩
      | exit id =>
        obtain ⟨hi3, hk3⟩ := hp
        obtain ⟨hr, hl4, hd4⟩ := fin (some (.exit id)) W3 hk3
        exact ⟨_, _, hr, .inr ⟨rfl, ⟨.exit id, (hIx _).put hi3 (hl3 W3 hk3) _, hl4, hd4⟩⟩⟩
      | goto t =>
        obtain ⟨hi3, hk3⟩ := hp
        obtain ⟨hr, hl4, hd4⟩ := fin (some (.goto t)) W3 hk3
        exact ⟨_, _, hr, .inr ⟨rfl, ⟨.goto t, (hIx _).put hi3 (hl3 W3 hk3) _, hl4, hd4⟩⟩⟩
      | panic ch => exact hp.elim
      | outgrown => exact hp.elim
    | ret => exact hp.elim
    | exit id => exact hp.elim
    | goto t => exact hp.elim
    | panic ch => exact hp.elim
    | outgrown => exact hp.elim
  · -- behind the iterator
    rintro e W2 ⟨⟨v, rfl⟩, (⟨hi, hl, hd⟩ | ⟨pre, hpre, c, hi, hl, hd⟩)⟩
    · exact ⟨none, _, run_endLoop hl (by simp [rec_]), hdone _ (hI.put hi hl _) ((World.putObj_heap_other (by omega)).trans hd)⟩
    · exact ⟨some c, _, run_endLoop hl (by simp [rec_]), hstop c pre _ hpre ((hIx c).put hi hl _) ((World.putObj_heap_other (by omega)).trans hd)⟩


set_option maxRecDepth 100000 in
set_option maxHeartbeats 4000000 in
theorem frall1_seqE (A : Option Addr) (n c g : Nat) (x : Bs) (S : Nat → Prop) (w00 w0 : World) (hx : Rd w00 A n x) (hnc : n ≤ c) (hn : n ≤ B40) (h0 : Ext w00 w0) (hS : ∀ k, S k → w00.heap.size ≤ k)
    (hg : w0.cell? ⟨g, 0, none⟩ = some (.slice A n c)) (hgS : ¬ S g) :
    SeqE Tryz.prog 57 #[.pointer (some ⟨g, 0, none⟩)] OkF S (atsF 0 (frs x)) w0 := by
  intro num l J Jx W hW hJ hJx hY hJ0
  have hg1 := hW.keeps' hg
  have hgW := cell_lt hg1
  have h0W := h0.trans hW
  have HX := Lib.hid hx
  have hxl := hx.1
  have hnb := hn
  unfold B40 at hn
  clear hg hx
  refine callsIn_of_wp Tryz.func57 rfl trivial ?_ rfl
  simp only [Tryz.ntmps57, List.size_toArray, List.length_cons, List.length_nil, Nat.reduceAdd, Nat.reduceSub, Array.replicate_succ, Array.replicate_zero, List.push_toArray, List.append_toArray, List.nil_append, List.cons_append]
  gi_wp2
  refine wpIn_scope_wide ?_
  gi_wp2
  refine wpIn_label ?_
  gi_wp2
  gi_loopw [3] (fun i wr => ∃ (k : Nat) (ps : List Bs), i = .int .i64 k ∧ Hid (GF x ps k) ∧ k ≤ n ∧ Hid (J (atsF 0 ps) wr) ∧ Hid (Kept (fun j => j < W.heap.size ∧ ¬ S j) W wr)) (fun i _ => n - (intOf i).toNat)
  case atStart => exact ⟨0, [], rfl, Lib.hid (GF.start x), Nat.zero_le _, Lib.hid hJ0, Lib.hid (Kept.rfl_ _ _)⟩
  case round =>
    obtain ⟨k, ps, rfl, HGF, hk, HJ, HKP⟩ := hrel
    have hzr := HKP.out.ext_of h0W (fun j hj => ⟨Nat.lt_of_lt_of_le hj h0W.size, fun h => by have := hS j h; omega⟩)
    have hgr := HKP.out.cell hg1 ⟨hgW, hgS⟩
    have HZR := Lib.hid hzr
    have HXr := Lib.hid (HX.out.ext hzr)
    clear hzr
    have hk64 : IntKind.i64.wrap (k : Int) = (k : Int) := by rw [IntKind.wrap_i64]; omega
    by_cases hkc : k = n
    · have hend : ¬ isF (x.drop k) = true := by
        rw [List.drop_of_length_le (by omega)]; decide
      have HE := Lib.hid (HGF.out.end_ hend)
      have hJE : J (atsF 0 (frs x)) wr := by rw [HE.out.1]; exact HJ.out
      have HJE := Lib.hid hJE
      have hf : isF ([] : Bs) = false := by decide
      have HF := Lib.hid hf
      clear hend hJE hf
      subst hkc
      have hcc : (k : Int) ≤ (c : Int) := by omega
      gi_wp2
      all_goals
        refine ⟨trivial, fun h => (by simp [Fence.wide] at h), ?_⟩
        refine (callsIn_wide.2 (first_any _ _ _ [] _ (Rd.nil _ _) (Nat.zero_le _) (by decide))).mono ?_
        rintro e w1 ⟨A1, n1, c1, rfl, -, hw1⟩
        rw [HF.out]
        have HJ1 := Lib.hid (hJ _ _ _ HJE.out hw1)
        clear hw1
        gi_wp2
        refine ⟨trivial, ?_⟩
        gi_wp2
        refine ⟨fun _ h => (by cases h), ?_⟩
        gi_wp2
        rw [Exit.noGoto_normal]
        go_end0
        exact ⟨⟨_, rfl⟩, .inl HJ1.out⟩
    · have hkn : k < n := by omega
      obtain ⟨b, o, rfl, _⟩ := HX.out.2 (by omega)
      have hkc' : ¬ c = k := by omega
      have hcc : (k : Int) ≤ (c : Int) := by omega
      have hnn : (k : Int) ≤ (n : Int) := by omega
      have HXT := Lib.hid (HXr.out.back k (by omega))
      clear HXr
      gi_wp2
      refine ⟨trivial, fun h => (by simp [Fence.wide] at h), ?_⟩
      refine (callsIn_wide.2 (first_any _ (n - k) (c - k) (x.drop k) _ HXT.out (by omega) (by unfold B40; omega))).mono ?_
      rintro e w1 ⟨A1, n1, c1, rfl, hr1, hw1⟩
      by_cases hF : isF (x.drop k) = true
      · obtain ⟨hq1, hnc1⟩ := hr1 hF
        rw [hF]
        have hlF := isF_len hF
        have hplF := plF_len hF
        rw [List.length_drop] at hlF
        have hn1 : n1 = nF (x.drop k) := by rw [← hq1.1]; exact hplF
        have HR1 := Lib.hid hq1
        have HGF2 := Lib.hid (HGF.out.step hF)
        have HMAY : Hid (mayF n1 = true) := Lib.hid (by unfold mayF; rw [hn1]; simp; omega)
        have hats : atsF 0 (ps ++ [plF (x.drop k)]) = atsF 0 ps ++ [(k, plF (x.drop k))] := by
          rw [atsF_app, Nat.zero_add, ← HGF.out.1]; rfl
        have hpf : atsF 0 ps ++ [(k, plF (x.drop k))] <+: atsF 0 (frs x) := by
          rw [← hats, HGF2.out.2.2, atsF_app 0 (ps ++ [plF (x.drop k)])]
          exact List.prefix_append _ _
        have HATS := Lib.hid hats
        have HPF := Lib.hid hpf
        have HJ1 := Lib.hid (hJ _ _ _ HJ.out hw1)
        have HK1 := Lib.hid (HKP.out.then_ hw1)
        have hnb47 : n1 ≤ B47 := by unfold B47; omega
        have hnx : n1 + 8 + k ≤ n := by omega
        rw [← hn1] at HGF2
        obtain ⟨p, hp⟩ : ∃ p, p = plF (x.drop k) := ⟨_, rfl⟩
        rw [← hp] at HR1 HGF2 HATS HPF
        clear hr1 hq1 hw1 hF hats hpf hlF hplF hn1 hp HJ HKP HGF HXT
        gi_wp2
        refine ⟨trivial, fun h => (by simp [Fence.wide] at h), ?_⟩
        refine (callsIn_wide.2 (bclone_any A1 n1 c1 p _ HR1.out hnb47)).mono ?_
        rintro e w2 ⟨v2, rfl, hcp, -, hw2⟩
        obtain ⟨A2, c2, rfl, hr2, hnc2, -⟩ := hcp.rd
        have hpl : p.length = n1 := HR1.out.1
        rw [hpl] at hr2 hnc2 ⊢
        have HR2 := Lib.hid hr2
        have HJ2 := Lib.hid (hJ _ _ _ HJ1.out hw2)
        have HK2 := Lib.hid (HK1.out.then_ hw2)
        clear hr2 hcp hw2 HJ1 HK1 hpl
        gi_wp2
        obtain ⟨fn, tmps, assign, body, hy, hRd⟩ := hY _ (k, p) #[.int .i64 (k : Nat), .slice A2 n1 c2] w2 (num - 1) HJ2.out HPF.out ⟨A2, n1, c2, rfl, HR2.out, hnc2⟩ HK2.out.size
        rw [hy]
        refine ⟨fun h => (by simp [Fence.wide] at h), ?_⟩
        refine RoundIn.mono hRd ?_
        rintro e W3 hE
        rcases hE with ⟨rfl, hJ3, hk3⟩ | ⟨rfl, hJ3⟩
        · have HK3 := Lib.hid (HK2.out.trans hk3)
          have HJ3 := Lib.hid hJ3
          have hwr8 : IntKind.i64.wrap ((k : Int) + ((8 + n1 : Nat) : Int)) = ((k + (8 + n1) : Nat) : Int) := by rw [IntKind.wrap_i64]; omega
          clear hJ3 hk3 hy hRd
          gi_wp2
          refine ⟨trivial, fun h => (by simp [Fence.wide] at h), ?_⟩
          refine (callsIn_wide.2 (fsize_any n1 _ HMAY.out)).mono ?_
          rintro e w4 ⟨rfl, rfl⟩
          gi_wp2
          go_roundw
          case rel => exact ⟨k + (8 + n1), ps ++ [p], rfl, HGF2, by omega, Lib.hid (by rw [HATS.out]; exact HJ3.out), HK3⟩
          case measure => simp [intOf]; omega
        · have HJ3 := Lib.hid hJ3
          clear hJ3 hy hRd
          gi_wp2
          rw [Exit.noGoto_normal]
          go_end0
          exact ⟨⟨_, rfl⟩, .inr ⟨_, HPF.out, HJ3.out⟩⟩
      · have HE := Lib.hid (HGF.out.end_ hF)
        have hF' : isF (x.drop k) = false := by simpa using hF
        have HJ1 := Lib.hid (hJ _ _ _ HJ.out hw1)
        rw [hF']
        clear hr1 hF hF' hw1
        gi_wp2
        refine ⟨trivial, ?_⟩
        gi_wp2
        refine ⟨fun _ h => (by cases h), ?_⟩
        gi_wp2
        rw [Exit.noGoto_normal]
        go_end0
        exact ⟨⟨_, rfl⟩, .inl (by rw [HE.out.1]; exact HJ1.out)⟩

end Go.Proofs.YteooaplimiifiaaGreat
