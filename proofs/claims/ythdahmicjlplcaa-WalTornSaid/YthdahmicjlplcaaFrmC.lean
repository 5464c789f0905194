/- What frame.All goes over. Conditions: the bytes read. -/
/- Contracts of frame.Whole and frame.Odd. Conditions: the bytes read. -/
import Derived.Test.YthdahmicjlplcaaCrcA
import Derived.Test.YthdahmicjlplcaaIter
import Derived.Test.YthdahmicjlplcaaRegR
namespace Go.Proofs.Ythdahmicjlplcaa
set_option linter.unusedSimpArgs false
set_option linter.unusedVariables false
open Go.RowKit Go.Shelf
attribute [local go_sem] Oper.semAt_some

set_option maxHeartbeats 400000 in
theorem frall_any (A : Option Addr) (n c : Nat) (w : World) :
    Calls Try.prog 41 #[.slice A n c] w fun e w' => e = .returned (.func (.func 64) #[] #[.pointer (some ⟨w.heap.size, 0, none⟩)]) ∧ w' = w.alloc (.cells #[.slice A n c] 29) := by
  go_enter Try.func41, Try.ntmps41
  go_wp2
  go_ret
  exact ⟨rfl, rfl⟩

/-- What is handed over: the place, and a slice that reads as the payload. -/
def OkF (kp : Nat × Bs) (vs : Array Value) (W : World) : Prop := ∃ A n c, vs = #[.int .i64 (kp.1 : Nat), .slice A n c] ∧ Rd W A n kp.2 ∧ n ≤ c

set_option maxRecDepth 100000 in
set_option maxHeartbeats 4000000 in
theorem frall1_seq (A : Option Addr) (n c g : Nat) (x : Bs) (S : Nat → Prop) (w00 w0 : World) (hx : Rd w00 A n x) (hnc : n ≤ c) (hn : n ≤ B40) (h0 : Ext w00 w0) (hS : ∀ k, S k → w00.heap.size ≤ k)
    (hg : w0.cell? ⟨g, 0, none⟩ = some (.slice A n c)) (hgS : ¬ S g) :
    SeqT Try.prog 64 #[.pointer (some ⟨g, 0, none⟩)] OkF S (atsF 0 (frs x)) w0 := by
  intro num l J Jx W hW hJ hJx hY hJ0
  have hg1 := hW.keeps' hg
  have hgW := cell_lt hg1
  have h0W := h0.trans hW
  have HX := Lib.hid hx
  have hxl := hx.1
  have hnb := hn
  unfold B40 at hn
  clear hg hx
  refine callsIn_of_wp Try.func64 rfl trivial ?_ rfl
  simp only [Try.ntmps64, List.size_toArray, List.length_cons, List.length_nil, Nat.reduceAdd, Nat.reduceSub, Array.replicate_succ, Array.replicate_zero, List.push_toArray, List.append_toArray, List.nil_append, List.cons_append]
  gi_wp2
  refine wpIn_scope_wide ?_
  gi_wp2
  refine wpIn_label ?_
  gi_wp2
  gi_loopw [3] (fun i wr => ∃ (k : Nat) (ps : List Bs), i = .int .i64 k ∧ Hid (GF x ps k) ∧ k ≤ n ∧ Hid (J (atsF 0 ps) (fun _ => False) wr) ∧ Hid (Kept (fun j => j < W.heap.size ∧ ¬ S j) W wr)) (fun i _ => n - (intOf i).toNat)
  case atStart => exact ⟨0, [], rfl, Lib.hid (GF.start x), Nat.zero_le _, Lib.hid hJ0, Lib.hid (Kept.rfl_ _ _)⟩
  case round =>
    obtain ⟨k, ps, rfl, HGF, hk, HJ, HKP⟩ := hrel
    have hzr := HKP.out.ext_of h0W (fun j hj => ⟨Nat.lt_of_lt_of_le hj h0W.size, fun h => by have := hS j h; omega⟩)
    have hgr := HKP.out.cell hg1 ⟨hgW, hgS⟩
    have HZR := Lib.hid hzr
    have HXr := Lib.hid (HX.out.ext hzr)
    clear hzr
    have hk64 : IntKind.i64.wrap (k : Int) = (k : Int) := by rw [IntKind.wrap_i64]; omega
    by_cases hkc : k = n
    · have hend : ¬ isF (x.drop k) = true := by
        rw [List.drop_of_length_le (by omega)]; decide
      have HE := Lib.hid (HGF.out.end_ hend)
      have hJE : J (atsF 0 (frs x)) (fun _ => False) wr := by rw [HE.out.1]; exact HJ.out
      have HJE := Lib.hid hJE
      have hf : isF ([] : Bs) = false := by decide
      have HF := Lib.hid hf
      clear hend hJE hf
      subst hkc
      have hcc : (k : Int) ≤ (c : Int) := by omega
      gi_wp2
      all_goals
        refine ⟨trivial, fun h => (by simp [Fence.wide] at h), ?_⟩
        refine (callsIn_wide.2 (first_any _ _ _ [] _ (Rd.nil _ _) (Nat.zero_le _) (by decide))).mono ?_
        rintro e w1 ⟨A1, n1, c1, rfl, -, hw1⟩
        rw [HF.out]
        have HJ1 := Lib.hid (hJ _ _ (fun _ => False) _ w1 HJE.out (Kept.of_ext hw1) (fun _ h => h) (fun _ h => .inl h))
        clear hw1
        gi_wp2
        refine ⟨trivial, ?_⟩
        gi_wp2
        refine ⟨fun _ h => (by cases h), ?_⟩
        gi_wp2
        rw [Exit.noGoto_normal]
        go_end0
        exact ⟨⟨_, rfl⟩, .inl ⟨_, HJ1.out⟩⟩
    · have hkn : k < n := by omega
      obtain ⟨b, o, rfl, _⟩ := HX.out.2 (by omega)
      have hkc' : ¬ c = k := by omega
      have hcc : (k : Int) ≤ (c : Int) := by omega
      have hnn : (k : Int) ≤ (n : Int) := by omega
      have HXT := Lib.hid (HXr.out.back k (by omega))
      clear HXr
      gi_wp2
      refine ⟨trivial, fun h => (by simp [Fence.wide] at h), ?_⟩
      refine (callsIn_wide.2 (first_any _ (n - k) (c - k) (x.drop k) _ HXT.out (by omega) (by unfold B40; omega))).mono ?_
      rintro e w1 ⟨A1, n1, c1, rfl, hr1, hw1⟩
      by_cases hF : isF (x.drop k) = true
      · obtain ⟨hq1, hnc1⟩ := hr1 hF
        rw [hF]
        have hlF := isF_len hF
        have hplF := plF_len hF
        rw [List.length_drop] at hlF
        have hn1 : n1 = nF (x.drop k) := by rw [← hq1.1]; exact hplF
        have HR1 := Lib.hid hq1
        have HGF2 := Lib.hid (HGF.out.step hF)
        have HMAY : Hid (mayF n1 = true) := Lib.hid (by unfold mayF; rw [hn1]; simp; omega)
        have hats : atsF 0 (ps ++ [plF (x.drop k)]) = atsF 0 ps ++ [(k, plF (x.drop k))] := by
          rw [atsF_app, Nat.zero_add, ← HGF.out.1]; rfl
        have hpf : atsF 0 ps ++ [(k, plF (x.drop k))] <+: atsF 0 (frs x) := by
          rw [← hats, HGF2.out.2.2, atsF_app 0 (ps ++ [plF (x.drop k)])]
          exact List.prefix_append _ _
        have HATS := Lib.hid hats
        have HPF := Lib.hid hpf
        have HJ1 := Lib.hid (hJ _ _ (fun _ => False) _ w1 HJ.out (Kept.of_ext hw1) (fun _ h => h) (fun _ h => .inl h))
        have HK1 := Lib.hid (HKP.out.then_ hw1)
        have hnb47 : n1 ≤ B47 := by unfold B47; omega
        have hnx : n1 + 8 + k ≤ n := by omega
        rw [← hn1] at HGF2
        obtain ⟨p, hp⟩ : ∃ p, p = plF (x.drop k) := ⟨_, rfl⟩
        rw [← hp] at HR1 HGF2 HATS HPF
        clear hr1 hq1 hw1 hF hats hpf hlF hplF hn1 hp HJ HKP HGF HXT
        gi_wp2
        refine ⟨trivial, fun h => (by simp [Fence.wide] at h), ?_⟩
        refine (callsIn_wide.2 (bclone_any A1 n1 c1 p _ HR1.out hnb47)).mono ?_
        rintro e w2 ⟨v2, rfl, hcp, -, hw2⟩
        obtain ⟨A2, c2, rfl, hr2, hnc2, -⟩ := hcp.rd
        have hpl : p.length = n1 := HR1.out.1
        rw [hpl] at hr2 hnc2 ⊢
        have HR2 := Lib.hid hr2
        have HJ2 := Lib.hid (hJ _ _ (fun _ => False) _ w2 HJ1.out (Kept.of_ext hw2) (fun _ h => h) (fun _ h => .inl h))
        have HK2 := Lib.hid (HK1.out.then_ hw2)
        clear hr2 hcp hw2 HJ1 HK1 hpl
        gi_wp2
        obtain ⟨fn, tmps, assign, body, hy, hRd⟩ := hY _ (k, p) #[.int .i64 (k : Nat), .slice A2 n1 c2] (fun _ => False) w2 (num - 1) HJ2.out HPF.out ⟨A2, n1, c2, rfl, HR2.out, hnc2⟩ (fun _ h => h.elim) HK2.out.size
        rw [hy]
        refine ⟨fun h => (by simp [Fence.wide] at h), ?_⟩
        refine RoundIn.mono hRd ?_
        rintro e W3 hE
        rcases hE with ⟨rfl, hJ3, hk3⟩ | ⟨rfl, hJ3, hk3⟩
        · have HK3 := Lib.hid (HK2.out.trans (hk3.mono fun k hk => .inr hk))
          have HJ3 := Lib.hid hJ3
          have hwr8 : IntKind.i64.wrap ((k : Int) + ((8 + n1 : Nat) : Int)) = ((k + (8 + n1) : Nat) : Int) := by rw [IntKind.wrap_i64]; omega
          clear hJ3 hk3 hy hRd
          gi_wp2
          refine ⟨trivial, fun h => (by simp [Fence.wide] at h), ?_⟩
          refine (callsIn_wide.2 (fsize_any n1 _ HMAY.out)).mono ?_
          rintro e w4 ⟨rfl, rfl⟩
          gi_wp2
          go_roundw
          case rel => exact ⟨k + (8 + n1), ps ++ [p], rfl, HGF2, by omega, Lib.hid (by rw [HATS.out]; exact HJ3.out), HK3⟩
          case measure => simp [intOf]; omega
        · have HJ3 := Lib.hid hJ3
          clear hJ3 hk3 hy hRd
          gi_wp2
          rw [Exit.noGoto_normal]
          go_end0
          exact ⟨⟨_, rfl⟩, .inr ⟨_, _, HPF.out, HJ3.out⟩⟩
      · have HE := Lib.hid (HGF.out.end_ hF)
        have hF' : isF (x.drop k) = false := by simpa using hF
        have HJ1 := Lib.hid (hJ _ _ (fun _ => False) _ w1 HJ.out (Kept.of_ext hw1) (fun _ h => h) (fun _ h => .inl h))
        rw [hF']
        clear hr1 hF hF' hw1
        gi_wp2
        refine ⟨trivial, ?_⟩
        gi_wp2
        refine ⟨fun _ h => (by cases h), ?_⟩
        gi_wp2
        rw [Exit.noGoto_normal]
        go_end0
        exact ⟨⟨_, rfl⟩, .inl ⟨_, by rw [HE.out.1]; exact HJ1.out⟩⟩


open Go.RowKit Go.Shelf
attribute [local go_sem] Oper.semAt_some

theorem atsF_at {pre : List (Nat × Bs)} {k j : Nat} {p : Bs} {ps : List Bs} (h : pre ++ [(k, p)] <+: atsF j ps) : k = j + endF (pre.map Prod.snd) ∧ p ∈ ps := by
  induction pre generalizing j ps with
  | nil =>
    cases ps with
    | nil => simp [atsF] at h
    | cons q ps =>
      rw [atsF, List.nil_append] at h
      have := (List.cons_prefix_cons.1 h).1
      cases this
      exact ⟨by simp [endF], List.mem_cons_self ..⟩
  | cons a pre ih =>
    cases ps with
    | nil => simp [atsF] at h
    | cons q ps =>
      rw [atsF, List.cons_append] at h
      obtain ⟨h1, h2⟩ := List.cons_prefix_cons.1 h
      obtain ⟨h3, h4⟩ := ih h2
      refine ⟨?_, List.mem_cons_of_mem _ h4⟩
      rw [List.map_cons, endF, h1, h3]
      simp only
      omega

structure WhoI (w : World) (pre : List (Nat × Bs)) (T : Nat → Prop) (Wc : World) : Prop where
  num : Wc.cell? ⟨w.heap.size, 0, none⟩ = some (.int .i64 pre.length)
  numF : Wc.frozen? ⟨w.heap.size, 0, none⟩ = false
  sum : Wc.cell? ⟨w.heap.size + 1, 0, none⟩ = some (.int .i64 (endF (pre.map Prod.snd) : Nat))
  sumF : Wc.frozen? ⟨w.heap.size + 1, 0, none⟩ = false
  ext : Ext w Wc
  size : w.heap.size + 3 ≤ Wc.heap.size
  t : ∀ k, T k → w.heap.size + 3 ≤ k

theorem WhoI.kept {w : World} {pre : List (Nat × Bs)} {T T' : Nat → Prop} {Wc W' : World} (h : WhoI w pre T Wc)
    (k : Kept (fun k => k < w.heap.size + 3) Wc W') (ht : ∀ k, T' k → w.heap.size + 3 ≤ k) : WhoI w pre T' W' := by
  have hz := h.size
  refine ⟨k.cell h.num (by simp), ?_, k.cell h.sum (by simp), ?_, k.ext_of h.ext (fun j hj => by omega), Nat.le_trans hz k.size, ht⟩
  · rw [k.frozen (by simp; omega) (by simp)]; exact h.numF
  · rw [k.frozen (by simp; omega) (by simp)]; exact h.sumF

theorem WhoI.ab (w : World) : AbI (w.heap.size + 3) (WhoI w) := by
  intro pre T T' Wc W' h hk hs hn
  have hz := h.size
  exact h.kept (hk.mono fun k hx => ⟨fun h' => by have := h.t _ h'; omega, by omega, by omega⟩) (fun k h' => (hn k h').elim (h.t k) (fun h => by omega))

set_option maxRecDepth 100000 in
set_option maxHeartbeats 4000000 in
theorem fwhole_any (A : Option Addr) (n c : Nat) (x : Bs) (w : World) (hx : Rd w A n x) (hnc : n ≤ c) (hn : n ≤ B40) :
    Calls Try.prog 73 #[.slice A n c] w fun e w' => e = .returned (.tuple #[.int .i64 (frs x).length, .int .i64 (endF (frs x) : Nat)]) ∧ Ext w w' := by
  have hle := frs_le x
  have hxl := hx.1
  have hnb := hn
  unfold B40 at hn
  refine (callsIn_wide (n := 3)).1 ?_
  refine callsIn_of_wp_marks Try.func73 rfl trivial ?_ rfl
  simp only [Try.ntmps73, List.size_toArray, List.length_cons, List.length_nil, Nat.reduceAdd, Nat.reduceSub, Array.replicate_succ, Array.replicate_zero, List.push_toArray, List.append_toArray, List.nil_append, List.cons_append]
  gi_wp2
  refine ⟨trivial, ?_⟩
  refine (callsIn_wide.2 (frall_any _ _ _ _)).mono ?_
  rintro e w' ⟨rfl, rfl⟩
  gi_wp2
  obtain ⟨W1, hW1⟩ : ∃ W1, W1 = w.alloc (.cells #[.int .i64 0] 3) := ⟨_, rfl⟩
  obtain ⟨W2, hW2⟩ : ∃ W2, W2 = W1.alloc (.cells #[.int .i64 0] 3) := ⟨_, rfl⟩
  obtain ⟨W5, hW5⟩ : ∃ W5, W5 = W2.alloc (.cells #[.slice A n c] 29) := ⟨_, rfl⟩
  have z1 : W1.heap.size = w.heap.size + 1 := by rw [hW1, World.size_alloc]
  have z2 : W2.heap.size = w.heap.size + 2 := by rw [hW2, World.size_alloc, z1]
  have hz5 : W5.heap.size = w.heap.size + 3 := by rw [hW5, World.size_alloc, z2]
  have x2 : Ext W2 W5 := by rw [hW5]; exact Ext.alloc (Ext.rfl_ _) _
  have x1 : Ext W1 W5 := Ext.trans (by rw [hW2]; exact Ext.alloc (Ext.rfl_ _) _) x2
  have x0 : Ext w W5 := Ext.trans (by rw [hW1]; exact Ext.alloc (Ext.rfl_ _) _) x1
  have q0 := cnew w (.int .i64 0) 3
  rw [← hW1] at q0
  have q1 := cnew W1 (.int .i64 0) 3
  rw [← hW2, z1] at q1
  have q2 := cnew W2 (.slice A n c) 29
  rw [← hW5, z2] at q2
  rw [← hW1, ← hW2, ← hW5]
  refine range_law (gf := 64) (lb := #[.pointer (some ⟨w.heap.size + 2, 0, none⟩)]) rfl (enters_of Try.func64 (by kernel_rfl) rfl)
    (frall1_seq A n c (w.heap.size + 2) x (fun k => k = w.heap.size ∨ k = w.heap.size + 1) w W5 hx hnc hnb x0 ?_ ?_ ?_) ?_ ?_ ?_
    (WhoI w) (fun _ _ _ _ => False) ?_ ?_ ?_ ?_ ?_ ?_
  · rintro k (rfl | rfl) <;> omega
  · exact q2.1
  · omega
  · exact Ext.rfl_ _
  · rintro x vs W ⟨A, n, c, rfl, _⟩; rfl
  · rintro k (rfl | rfl) <;> omega
  · rw [hz5]; exact WhoI.ab w
  · intro code; rw [hz5]
    rintro pre T T' Wc W' h
    exact h.elim
  · refine ⟨x1.keeps _ _ _ q0.1, ?_, x2.keeps _ _ _ q1.1, ?_, x0, by omega, fun _ h => h.elim⟩
    · rw [(bcell x1).2 _ _ (by omega)]; exact q0.2
    · rw [(bcell x2).2 _ _ (by omega)]; exact q1.2
  · rintro l2 m pre ⟨k, p⟩ vs T Wc rfl hI hpre ⟨B, nb, cb, rfl, hrd, hcb⟩ hT hz hlo
    rw [hz5] at hT hz hlo
    obtain ⟨hk, hp⟩ := atsF_at hpre
    have hpm := frs_may hp
    have hend : endF ((pre ++ [(k, p)]).map Prod.snd) ≤ endF (frs x) := by
      obtain ⟨t, ht⟩ := hpre
      have := congrArg (fun l => endF (l.map Prod.snd)) ht
      simp only [atsF_snd] at this
      rw [← this, List.map_append (l₂ := t), endF_app]
      omega
    have hlen : (pre ++ [(k, p)]).length ≤ n := by
      have h1 := hpre.length_le
      rw [atsF_len] at h1
      have : ∀ ps : List Bs, ps.length ≤ endF ps := by
        intro ps
        induction ps with
        | nil => exact Nat.le_refl _
        | cons a ps ih => simp [endF]; omega
      have := this (frs x)
      omega
    have hpl : p.length = nb := hrd.1
    have hmay : mayF nb = true := by unfold mayF; simp; omega
    have hend2 : endF ((pre ++ [(k, p)]).map Prod.snd) = k + (8 + nb) := by rw [List.map_append, endF_app]; simp only [List.map_cons, List.map_nil, endF]; omega
    have hln2 : (pre ++ [(k, p)]).length = pre.length + 1 := by simp
    rw [hend2] at hend
    rw [hln2] at hlen
    simp only [List.zip_toArray, List.zip_cons_cons, List.zip_nil_right, List.foldl_toArray', List.foldl_cons, List.foldl_nil]
    have hI0 := Lib.hid hI
    have HEND := Lib.hid hend2
    have HLEN := Lib.hid hln2
    have HMAY := Lib.hid hmay
    clear hI hpre hrd hk hp hend2 hln2 hpl hmay
    gi_wp2
    refine ⟨Ext.rfl_ _, fun W3 kp3 => ?_⟩
    (try rw [hz5] at kp3)
    have hI2 := hI0.out.kept (T' := T) (kp3.mono fun k hk => by omega) hI0.out.t
    obtain ⟨i1, i2, i3, i4, i5, i6, i7⟩ := id hI2
    have H2 := Lib.hid hI2
    clear hI2 kp3
    have hwr : IntKind.i64.wrap ((pre.length : Int) + 1) = (pre.length : Int) + 1 := by rw [IntKind.wrap_i64]; omega
    have hwr2 : IntKind.i64.wrap ((k : Int) + (8 + (nb : Int))) = (k : Int) + (8 + (nb : Int)) := by rw [IntKind.wrap_i64]; omega
    gi_wp2
    refine wpIn_region_rnd (by kernel_rfl) (by kernel_rfl) rfl ?_
    (try (change wpAnyIn _ _ _ _ _ _ _ _ _ (World.drew _)))
    refine wpAnyIn_take (i := 2) (oi := ({ dst := some 14, op := Go.Op.move (Go.Operand.tmp 6), type := 3, pos := "frame.go:66", after := #[{ on := 7, ground := Go.Ground.gcOnly Go.Departure.lateStores }], guard := none } : Go.Oper)) (v := ?v1) rfl rfl (by kernel_rfl) (by kernel_rfl) (by kernel_rfl) (fun _ _ _ h => h) ⟨Or.inl ⟨by rfl, ?hy1⟩, fun _ => rfl⟩ ?rest1
    case hy1 => (intro w; go_simp; (try with_reducible rfl))
    (try simp only [Act.put, List.getElem_toArray, List.getElem_cons_zero, List.getElem_cons_succ, List.setIfInBounds_toArray, List.set_cons_zero, List.set_cons_succ])
    refine wpAnyIn_take (i := 3) (oi := ({ dst := some 15, op := Go.Op.move (Go.Operand.tmp 7), type := 29, pos := "frame.go:66", after := #[], guard := none } : Go.Oper)) (v := ?v2) rfl rfl (by kernel_rfl) (by kernel_rfl) (by kernel_rfl) (fun _ _ _ h => h) ⟨Or.inl ⟨by rfl, ?hy2⟩, fun _ => rfl⟩ ?rest2
    case hy2 => (intro w; go_simp; (try with_reducible rfl))
    (try simp only [Act.put, List.getElem_toArray, List.getElem_cons_zero, List.getElem_cons_succ, List.setIfInBounds_toArray, List.set_cons_zero, List.set_cons_succ])
    refine wpAnyIn_take (i := 4) (oi := ({ dst := some 16, op := Go.Op.call { callee := Go.Callee.builtin Go.Builtin.len, args := #[Go.Operand.tmp 15], argTypes := #[29] }, type := 3, pos := "frame.go:66", after := #[{ on := 3, ground := Go.Ground.data }], guard := none } : Go.Oper)) (v := ?v3) rfl rfl (by kernel_rfl) (by kernel_rfl) (by kernel_rfl) (fun _ _ _ h => h) ⟨Or.inl ⟨by rfl, ?hy3⟩, fun _ => rfl⟩ ?rest3
    case hy3 => (intro w; go_simp; (try with_reducible rfl))
    (try simp only [Act.put, List.getElem_toArray, List.getElem_cons_zero, List.getElem_cons_succ, List.setIfInBounds_toArray, List.set_cons_zero, List.set_cons_succ])
    refine wpAnyIn_ready (rs := [0, 5]) (by kernel_rfl) (by simp) ?_
    refine AllReadyIn.cons (o := ({ dst := some 12, op := Go.Op.load 3 (Go.Operand.tmp 4), type := 3, pos := "frame.go:66", after := #[], guard := none } : Go.Oper)) rfl (fun K hK => ?one4) ?more4
    case' one4 =>
      go_simp
      refine hK _ _ ?_
      clear hK K
      (try simp only [Act.put, List.getElem_toArray, List.getElem_cons_zero, List.getElem_cons_succ, List.setIfInBounds_toArray, List.set_cons_zero, List.set_cons_succ])
      refine wpAnyIn_take (i := 1) (oi := ({ dst := some 13, op := Go.Op.binOp Go.BinOp.add 3 (Go.Operand.tmp 12) (Go.Operand.const (Go.Value.int Go.IntKind.i64 1)) 3, type := 3, pos := "frame.go:66", after := #[{ on := 0, ground := Go.Ground.data }], guard := none } : Go.Oper)) (v := ?v5) rfl rfl (by kernel_rfl) (by kernel_rfl) (by kernel_rfl) (fun _ _ _ h => h) ⟨Or.inl ⟨by rfl, ?hy5⟩, fun _ => rfl⟩ ?rest5
      case hy5 => (intro w; go_simp; (try with_reducible rfl))
      (try simp only [Act.put, List.getElem_toArray, List.getElem_cons_zero, List.getElem_cons_succ, List.setIfInBounds_toArray, List.set_cons_zero, List.set_cons_succ])
      refine wpAnyIn_ready (rs := [5]) (by kernel_rfl) (by simp) ?_
      refine AllReadyIn.cons (o := ({ dst := some 17, op := Go.Op.call { callee := Go.Callee.value (Go.Operand.func 43), args := #[Go.Operand.tmp 16], argTypes := #[3] }, type := 3, pos := "frame.go:66", after := #[{ on := 4, ground := Go.Ground.data }], guard := none } : Go.Oper)) rfl (fun K hK => ?_) AllReadyIn.nil
      go_simp
      refine ⟨trivial, fun h => (by simp [Fence.wide] at h), ?_⟩; refine (callsIn_wide.2 (fsize_any nb _ HMAY.out)).mono ?_; rintro e w3 ⟨rfl, rfl⟩
      refine hK _ _ ?_
      clear hK K
      (try simp only [Act.put, List.getElem_toArray, List.getElem_cons_zero, List.getElem_cons_succ, List.setIfInBounds_toArray, List.set_cons_zero, List.set_cons_succ])
      refine wpAnyIn_take (i := 6) (oi := ({ dst := some 18, op := Go.Op.binOp Go.BinOp.add 3 (Go.Operand.tmp 14) (Go.Operand.tmp 17) 3, type := 3, pos := "frame.go:66", after := #[{ on := 2, ground := Go.Ground.data }, { on := 5, ground := Go.Ground.data }, { on := 7, ground := Go.Ground.gcOnly Go.Departure.lateStores }], guard := none } : Go.Oper)) (v := ?v6) rfl rfl (by kernel_rfl) (by kernel_rfl) (by kernel_rfl) (fun _ _ _ h => h) ⟨Or.inl ⟨by rfl, ?hy6⟩, fun _ => rfl⟩ ?rest6
      case hy6 => (intro w; go_simp; (try with_reducible rfl))
      (try simp only [Act.put, List.getElem_toArray, List.getElem_cons_zero, List.getElem_cons_succ, List.setIfInBounds_toArray, List.set_cons_zero, List.set_cons_succ])
      refine wpAnyIn_ready (rs := [7]) (by kernel_rfl) (by simp) ?_
      refine AllReadyIn.cons (o := ({ dst := none, op := Go.Op.store 3 (Go.Operand.tmp 4) (Go.Operand.tmp 13), type := 0, pos := "frame.go:66", after := #[{ on := 1, ground := Go.Ground.data }, { on := 5, ground := Go.Ground.chain }, { on := 0, ground := Go.Ground.phase }, { on := 1, ground := Go.Ground.phase }, { on := 2, ground := Go.Ground.textOnly Go.Departure.lateStores }, { on := 3, ground := Go.Ground.textOnly Go.Departure.lateStores }, { on := 4, ground := Go.Ground.textOnly Go.Departure.lateStoresUnsure }, { on := 5, ground := Go.Ground.textOnly Go.Departure.lateStoresUnsure }, { on := 6, ground := Go.Ground.textOnly Go.Departure.lateStores }], guard := none } : Go.Oper)) rfl (fun K hK => ?_) AllReadyIn.nil
      go_simp
      refine hK _ _ ?_
      clear hK K
      (try simp only [Act.put, List.getElem_toArray, List.getElem_cons_zero, List.getElem_cons_succ, List.setIfInBounds_toArray, List.set_cons_zero, List.set_cons_succ])
      refine wpAnyIn_ready (rs := [8]) (by kernel_rfl) (by simp) ?_
      refine AllReadyIn.cons (o := ({ dst := none, op := Go.Op.store 3 (Go.Operand.tmp 5) (Go.Operand.tmp 18), type := 0, pos := "frame.go:66", after := #[{ on := 6, ground := Go.Ground.data }, { on := 7, ground := Go.Ground.chain }, { on := 0, ground := Go.Ground.phase }, { on := 1, ground := Go.Ground.phase }, { on := 2, ground := Go.Ground.phase }, { on := 3, ground := Go.Ground.phase }, { on := 4, ground := Go.Ground.phase }, { on := 5, ground := Go.Ground.phase }, { on := 6, ground := Go.Ground.phase }, { on := 7, ground := Go.Ground.phase }], guard := none } : Go.Oper)) rfl (fun K hK => ?_) AllReadyIn.nil
      go_simp
      refine hK _ _ ?_
      clear hK K
      (try simp only [Act.put, List.getElem_toArray, List.getElem_cons_zero, List.getElem_cons_succ, List.setIfInBounds_toArray, List.set_cons_zero, List.set_cons_succ])
      refine wpAnyIn_done (by kernel_rfl) ?_ _
    case' more4 =>
      refine AllReadyIn.cons (o := ({ dst := some 17, op := Go.Op.call { callee := Go.Callee.value (Go.Operand.func 43), args := #[Go.Operand.tmp 16], argTypes := #[3] }, type := 3, pos := "frame.go:66", after := #[{ on := 4, ground := Go.Ground.data }], guard := none } : Go.Oper)) rfl (fun K hK => ?_) AllReadyIn.nil
      go_simp
      refine ⟨trivial, fun h => (by simp [Fence.wide] at h), ?_⟩; refine (callsIn_wide.2 (fsize_any nb _ HMAY.out)).mono ?_; rintro e w3 ⟨rfl, rfl⟩
      refine hK _ _ ?_
      clear hK K
      (try simp only [Act.put, List.getElem_toArray, List.getElem_cons_zero, List.getElem_cons_succ, List.setIfInBounds_toArray, List.set_cons_zero, List.set_cons_succ])
      refine wpAnyIn_take (i := 6) (oi := ({ dst := some 18, op := Go.Op.binOp Go.BinOp.add 3 (Go.Operand.tmp 14) (Go.Operand.tmp 17) 3, type := 3, pos := "frame.go:66", after := #[{ on := 2, ground := Go.Ground.data }, { on := 5, ground := Go.Ground.data }, { on := 7, ground := Go.Ground.gcOnly Go.Departure.lateStores }], guard := none } : Go.Oper)) (v := ?v7) rfl rfl (by kernel_rfl) (by kernel_rfl) (by kernel_rfl) (fun _ _ _ h => h) ⟨Or.inl ⟨by rfl, ?hy7⟩, fun _ => rfl⟩ ?rest7
      case hy7 => (intro w; go_simp; (try with_reducible rfl))
      (try simp only [Act.put, List.getElem_toArray, List.getElem_cons_zero, List.getElem_cons_succ, List.setIfInBounds_toArray, List.set_cons_zero, List.set_cons_succ])
      refine wpAnyIn_ready (rs := [0]) (by kernel_rfl) (by simp) ?_
      refine AllReadyIn.cons (o := ({ dst := some 12, op := Go.Op.load 3 (Go.Operand.tmp 4), type := 3, pos := "frame.go:66", after := #[], guard := none } : Go.Oper)) rfl (fun K hK => ?_) AllReadyIn.nil
      go_simp
      refine hK _ _ ?_
      clear hK K
      (try simp only [Act.put, List.getElem_toArray, List.getElem_cons_zero, List.getElem_cons_succ, List.setIfInBounds_toArray, List.set_cons_zero, List.set_cons_succ])
      refine wpAnyIn_take (i := 1) (oi := ({ dst := some 13, op := Go.Op.binOp Go.BinOp.add 3 (Go.Operand.tmp 12) (Go.Operand.const (Go.Value.int Go.IntKind.i64 1)) 3, type := 3, pos := "frame.go:66", after := #[{ on := 0, ground := Go.Ground.data }], guard := none } : Go.Oper)) (v := ?v8) rfl rfl (by kernel_rfl) (by kernel_rfl) (by kernel_rfl) (fun _ _ _ h => h) ⟨Or.inl ⟨by rfl, ?hy8⟩, fun _ => rfl⟩ ?rest8
      case hy8 => (intro w; go_simp; (try with_reducible rfl))
      (try simp only [Act.put, List.getElem_toArray, List.getElem_cons_zero, List.getElem_cons_succ, List.setIfInBounds_toArray, List.set_cons_zero, List.set_cons_succ])
      refine wpAnyIn_ready (rs := [7]) (by kernel_rfl) (by simp) ?_
      refine AllReadyIn.cons (o := ({ dst := none, op := Go.Op.store 3 (Go.Operand.tmp 4) (Go.Operand.tmp 13), type := 0, pos := "frame.go:66", after := #[{ on := 1, ground := Go.Ground.data }, { on := 5, ground := Go.Ground.chain }, { on := 0, ground := Go.Ground.phase }, { on := 1, ground := Go.Ground.phase }, { on := 2, ground := Go.Ground.textOnly Go.Departure.lateStores }, { on := 3, ground := Go.Ground.textOnly Go.Departure.lateStores }, { on := 4, ground := Go.Ground.textOnly Go.Departure.lateStoresUnsure }, { on := 5, ground := Go.Ground.textOnly Go.Departure.lateStoresUnsure }, { on := 6, ground := Go.Ground.textOnly Go.Departure.lateStores }], guard := none } : Go.Oper)) rfl (fun K hK => ?_) AllReadyIn.nil
      go_simp
      refine hK _ _ ?_
      clear hK K
      (try simp only [Act.put, List.getElem_toArray, List.getElem_cons_zero, List.getElem_cons_succ, List.setIfInBounds_toArray, List.set_cons_zero, List.set_cons_succ])
      refine wpAnyIn_ready (rs := [8]) (by kernel_rfl) (by simp) ?_
      refine AllReadyIn.cons (o := ({ dst := none, op := Go.Op.store 3 (Go.Operand.tmp 5) (Go.Operand.tmp 18), type := 0, pos := "frame.go:66", after := #[{ on := 6, ground := Go.Ground.data }, { on := 7, ground := Go.Ground.chain }, { on := 0, ground := Go.Ground.phase }, { on := 1, ground := Go.Ground.phase }, { on := 2, ground := Go.Ground.phase }, { on := 3, ground := Go.Ground.phase }, { on := 4, ground := Go.Ground.phase }, { on := 5, ground := Go.Ground.phase }, { on := 6, ground := Go.Ground.phase }, { on := 7, ground := Go.Ground.phase }], guard := none } : Go.Oper)) rfl (fun K hK => ?_) AllReadyIn.nil
      go_simp
      refine hK _ _ ?_
      clear hK K
      (try simp only [Act.put, List.getElem_toArray, List.getElem_cons_zero, List.getElem_cons_succ, List.setIfInBounds_toArray, List.set_cons_zero, List.set_cons_succ])
      refine wpAnyIn_done (by kernel_rfl) ?_ _
    all_goals
      gi_wp2
      have k1 : Kept (fun j => j ≠ w.heap.size ∧ j ≠ w.heap.size + 1) W3 (((W3.setCell ⟨w.heap.size, 0, none⟩ (.int .i64 ((pre.length : Int) + 1))).setCell ⟨w.heap.size + 1, 0, none⟩ (.int .i64 ((k : Int) + (8 + (nb : Int))))).drew) :=
        (Kept.setCell (Kept.setCell (Kept.rfl_ _ _) (by simp) _) (by simp) _).then_ (Ext.drew (Ext.rfl_ _))
      refine ⟨⟨?_, ?_, ?_, ?_, k1.ext_of i5 (fun j hj => by omega), Nat.le_trans i6 k1.size, i7⟩, ?_⟩
      · rw [HLEN.out]
        show (World.setCell _ _ _).cell? _ = _
        rw [World.cell?_setCell_other _ _ _ _ (fun e => by simp at e)]
        exact World.cell?_setCell_same' _ _ _ (by rw [i1]; rfl)
      · show (World.setCell _ _ _).frozen? _ = _
        rw [World.frozen?_setCell, World.frozen?_setCell]; exact i2
      · rw [HEND.out]
        show (World.setCell _ _ _).cell? _ = _
        exact World.cell?_setCell_same' _ _ _ (by rw [World.cell?_setCell_other _ _ _ _ (fun e => by simp at e), i3]; rfl)
      · show (World.setCell _ _ _).frozen? _ = _
        rw [World.frozen?_setCell, World.frozen?_setCell]; exact i4
      · refine k1.mono fun j hj => ?_
        rcases hj with h | h
        · have := i7 j h; omega
        · exact ⟨fun e => h.2 (.inl e), fun e => h.2 (.inr e)⟩
  · intro T Wd hI hD
    obtain ⟨i1, i2, i3, i4, i5, i6, i7⟩ := hI
    rw [atsF_len] at i1
    rw [atsF_snd] at i3
    gi_wp2
    refine wpIn_region_any (by kernel_rfl) ?_
    (try (change wpAnyIn _ _ _ _ _ _ _ _ _ (World.drew _)))
    refine wpAnyIn_ready (rs := [0, 1]) (by kernel_rfl) (by simp) ?_
    refine AllReadyIn.cons (o := ({ dst := some 19, op := Go.Op.load 3 (Go.Operand.tmp 4), type := 3, pos := "frame.go:68", after := #[], guard := none } : Go.Oper)) rfl (fun K hK => ?one9) ?more9
    case' one9 =>
      go_simp
      refine hK _ _ ?_
      clear hK K
      (try simp only [Act.put, List.getElem_toArray, List.getElem_cons_zero, List.getElem_cons_succ, List.setIfInBounds_toArray, List.set_cons_zero, List.set_cons_succ])
      refine wpAnyIn_ready (rs := [1, 2]) (by kernel_rfl) (by simp) ?_
      refine AllReadyIn.cons (o := ({ dst := some 20, op := Go.Op.load 3 (Go.Operand.tmp 5), type := 3, pos := "frame.go:68", after := #[{ on := 2, ground := Go.Ground.gcOnly Go.Departure.lateStores }], guard := none } : Go.Oper)) rfl (fun K hK => ?one10) ?more10
      case' one10 =>
        go_simp
        refine hK _ _ ?_
        clear hK K
        (try simp only [Act.put, List.getElem_toArray, List.getElem_cons_zero, List.getElem_cons_succ, List.setIfInBounds_toArray, List.set_cons_zero, List.set_cons_succ])
        refine wpAnyIn_ready (rs := [2]) (by kernel_rfl) (by simp) ?_
        refine AllReadyIn.cons (o := ({ dst := some 2, op := Go.Op.assign (Go.Operand.tmp 19), type := 3, pos := "frame.go:68", after := #[{ on := 0, ground := Go.Ground.data }, { on := 0, ground := Go.Ground.phase }, { on := 1, ground := Go.Ground.textOnly Go.Departure.lateStores }], guard := none } : Go.Oper)) rfl (fun K hK => ?_) AllReadyIn.nil
        go_simp
        refine hK _ _ ?_
        clear hK K
        (try simp only [Act.put, List.getElem_toArray, List.getElem_cons_zero, List.getElem_cons_succ, List.setIfInBounds_toArray, List.set_cons_zero, List.set_cons_succ])
        refine wpAnyIn_ready (rs := [3]) (by kernel_rfl) (by simp) ?_
        refine AllReadyIn.cons (o := ({ dst := some 3, op := Go.Op.assign (Go.Operand.tmp 20), type := 3, pos := "frame.go:68", after := #[{ on := 1, ground := Go.Ground.data }, { on := 2, ground := Go.Ground.chain }, { on := 0, ground := Go.Ground.phase }, { on := 1, ground := Go.Ground.phase }, { on := 2, ground := Go.Ground.phase }], guard := none } : Go.Oper)) rfl (fun K hK => ?_) AllReadyIn.nil
        go_simp
        refine hK _ _ ?_
        clear hK K
        (try simp only [Act.put, List.getElem_toArray, List.getElem_cons_zero, List.getElem_cons_succ, List.setIfInBounds_toArray, List.set_cons_zero, List.set_cons_succ])
        refine wpAnyIn_done (by kernel_rfl) ?_ _
      case' more10 =>
        refine AllReadyIn.cons (o := ({ dst := some 2, op := Go.Op.assign (Go.Operand.tmp 19), type := 3, pos := "frame.go:68", after := #[{ on := 0, ground := Go.Ground.data }, { on := 0, ground := Go.Ground.phase }, { on := 1, ground := Go.Ground.textOnly Go.Departure.lateStores }], guard := none } : Go.Oper)) rfl (fun K hK => ?_) AllReadyIn.nil
        go_simp
        refine hK _ _ ?_
        clear hK K
        (try simp only [Act.put, List.getElem_toArray, List.getElem_cons_zero, List.getElem_cons_succ, List.setIfInBounds_toArray, List.set_cons_zero, List.set_cons_succ])
        refine wpAnyIn_ready (rs := [1]) (by kernel_rfl) (by simp) ?_
        refine AllReadyIn.cons (o := ({ dst := some 20, op := Go.Op.load 3 (Go.Operand.tmp 5), type := 3, pos := "frame.go:68", after := #[{ on := 2, ground := Go.Ground.gcOnly Go.Departure.lateStores }], guard := none } : Go.Oper)) rfl (fun K hK => ?_) AllReadyIn.nil
        go_simp
        refine hK _ _ ?_
        clear hK K
        (try simp only [Act.put, List.getElem_toArray, List.getElem_cons_zero, List.getElem_cons_succ, List.setIfInBounds_toArray, List.set_cons_zero, List.set_cons_succ])
        refine wpAnyIn_ready (rs := [3]) (by kernel_rfl) (by simp) ?_
        refine AllReadyIn.cons (o := ({ dst := some 3, op := Go.Op.assign (Go.Operand.tmp 20), type := 3, pos := "frame.go:68", after := #[{ on := 1, ground := Go.Ground.data }, { on := 2, ground := Go.Ground.chain }, { on := 0, ground := Go.Ground.phase }, { on := 1, ground := Go.Ground.phase }, { on := 2, ground := Go.Ground.phase }], guard := none } : Go.Oper)) rfl (fun K hK => ?_) AllReadyIn.nil
        go_simp
        refine hK _ _ ?_
        clear hK K
        (try simp only [Act.put, List.getElem_toArray, List.getElem_cons_zero, List.getElem_cons_succ, List.setIfInBounds_toArray, List.set_cons_zero, List.set_cons_succ])
        refine wpAnyIn_done (by kernel_rfl) ?_ _
    case' more9 =>
      refine AllReadyIn.cons (o := ({ dst := some 20, op := Go.Op.load 3 (Go.Operand.tmp 5), type := 3, pos := "frame.go:68", after := #[{ on := 2, ground := Go.Ground.gcOnly Go.Departure.lateStores }], guard := none } : Go.Oper)) rfl (fun K hK => ?_) AllReadyIn.nil
      go_simp
      refine hK _ _ ?_
      clear hK K
      (try simp only [Act.put, List.getElem_toArray, List.getElem_cons_zero, List.getElem_cons_succ, List.setIfInBounds_toArray, List.set_cons_zero, List.set_cons_succ])
      refine wpAnyIn_ready (rs := [0]) (by kernel_rfl) (by simp) ?_
      refine AllReadyIn.cons (o := ({ dst := some 19, op := Go.Op.load 3 (Go.Operand.tmp 4), type := 3, pos := "frame.go:68", after := #[], guard := none } : Go.Oper)) rfl (fun K hK => ?_) AllReadyIn.nil
      go_simp
      refine hK _ _ ?_
      clear hK K
      (try simp only [Act.put, List.getElem_toArray, List.getElem_cons_zero, List.getElem_cons_succ, List.setIfInBounds_toArray, List.set_cons_zero, List.set_cons_succ])
      refine wpAnyIn_ready (rs := [2]) (by kernel_rfl) (by simp) ?_
      refine AllReadyIn.cons (o := ({ dst := some 2, op := Go.Op.assign (Go.Operand.tmp 19), type := 3, pos := "frame.go:68", after := #[{ on := 0, ground := Go.Ground.data }, { on := 0, ground := Go.Ground.phase }, { on := 1, ground := Go.Ground.textOnly Go.Departure.lateStores }], guard := none } : Go.Oper)) rfl (fun K hK => ?_) AllReadyIn.nil
      go_simp
      refine hK _ _ ?_
      clear hK K
      (try simp only [Act.put, List.getElem_toArray, List.getElem_cons_zero, List.getElem_cons_succ, List.setIfInBounds_toArray, List.set_cons_zero, List.set_cons_succ])
      refine wpAnyIn_ready (rs := [3]) (by kernel_rfl) (by simp) ?_
      refine AllReadyIn.cons (o := ({ dst := some 3, op := Go.Op.assign (Go.Operand.tmp 20), type := 3, pos := "frame.go:68", after := #[{ on := 1, ground := Go.Ground.data }, { on := 2, ground := Go.Ground.chain }, { on := 0, ground := Go.Ground.phase }, { on := 1, ground := Go.Ground.phase }, { on := 2, ground := Go.Ground.phase }], guard := none } : Go.Oper)) rfl (fun K hK => ?_) AllReadyIn.nil
      go_simp
      refine hK _ _ ?_
      clear hK K
      (try simp only [Act.put, List.getElem_toArray, List.getElem_cons_zero, List.getElem_cons_succ, List.setIfInBounds_toArray, List.set_cons_zero, List.set_cons_succ])
      refine wpAnyIn_done (by kernel_rfl) ?_ _
    all_goals
      gi_wp2
      have hD2 : Wd.drew.heap[w.heap.size + 1 + 1 + 1]? = some (.deferred (some [])) := by rw [hz5] at hD; exact hD
      refine ⟨by simp, .inl ⟨_, _, rfl, run_takeDeferred hD2, ?_⟩⟩
      have k2 := (Kept.of_ext (X := fun k => k ≠ w.heap.size + 1 + 1 + 1) (Ext.drew (Ext.rfl_ Wd))).trans (Kept.putObj (fun k => k ≠ w.heap.size + 1 + 1 + 1) Wd.drew (w.heap.size + 1 + 1 + 1) (.deferred none) (by simp))
      refine ⟨.tuple #[.int .i64 (frs x).length, .int .i64 (endF (frs x) : Nat)], ?_, rfl, ?_⟩
      · simp [results, Try.f73, go_sem]
      · exact k2.ext_of i5 (fun k hk => by omega)
  · rintro code pre T Wd hp h hD
    exact h.elim

set_option maxRecDepth 100000 in
set_option maxHeartbeats 2000000 in
theorem fodd_any (A : Option Addr) (n c : Nat) (x : Bs) (w : World) (hx : Rd w A n x) (hnc : n ≤ c) (hn : n ≤ B40) :
    Calls Try.prog 44 #[.slice A n c] w fun e w' => e = .returned (.bool (oddF x)) ∧ Ext w w' := by
  have hle := frs_le x
  have hxl := hx.1
  have HX := Lib.hid hx
  have hnb := hn
  unfold B40 at hn
  obtain ⟨K, hK⟩ : ∃ K, K = endF (frs x) := ⟨_, rfl⟩
  have hrest : restF x = x.drop K := by rw [hK]; rfl
  have HR := Lib.hid hrest
  have hKn : K ≤ n := by omega
  have HK := Lib.hid hK
  go_enter Try.func44, Try.ntmps44
  go_wp2_with fail
  refine (fwhole_any A n c x _ hx hnc hnb).mono ?_
  rintro e w1 ⟨rfl, hw1⟩
  rw [← hK]
  have hcc : (K : Int) ≤ (c : Int) := by omega
  have hnn : (K : Int) ≤ (n : Int) := by omega
  have hl : (x.drop K).length = n - K := by rw [List.length_drop, hxl]
  have HL := Lib.hid hl
  clear hx hK hrest hle hl
  by_cases h8 : n - K < 8
  · have hd : decide (n < 8 + K) = true := decide_eq_true (by omega)
    have hodd : oddF x = false := by
      unfold oddF
      rw [HR.out, HL.out, decide_eq_false (by omega), Bool.false_and]
    have HO := Lib.hid hodd
    clear hodd
    by_cases hck : c = K
    · go_wp2
      all_goals
        go_ret
        exact ⟨ret_bool HO.out.symm, (by with_reducible (repeat (first | exact Ext.rfl_ _ | assumption | refine Ext.drew ?_ | refine Ext.drewN ?_ _ | refine Ext.alloc ?_ _ | refine Ext.trans ?_ (by assumption))))⟩
    · go_wp2
      all_goals
        go_ret
        exact ⟨ret_bool HO.out.symm, (by with_reducible (repeat (first | exact Ext.rfl_ _ | assumption | refine Ext.drew ?_ | refine Ext.drewN ?_ _ | refine Ext.alloc ?_ _ | refine Ext.trans ?_ (by assumption))))⟩
  · have hck : ¬ c = K := by omega
    obtain ⟨b, o, rfl, _⟩ := HX.out.2 (by omega)
    have hd : ¬ (((n - K : Nat) : Int) < 8) := by omega
    have HXT := Lib.hid (HX.out.back K hKn)
    obtain ⟨N, hN⟩ : ∃ N, N = nF (x.drop K) := ⟨_, rfl⟩
    have hu : un4 ((x.drop K).take 4) = N := by rw [hN]; rfl
    have HU := Lib.hid hu
    have hN32 : N < 4294967296 := by rw [hN]; exact un4_lt _
    have hwr : wrap64 (N : Int) = (N : Int) := w64 (by omega) (by omega)
    have hodd : oddF x = (!mayF N || decide (8 + N ≤ n - K)) := by
      unfold oddF
      rw [HR.out, HL.out, decide_eq_true (by omega), Bool.true_and, hN]
    have HO := Lib.hid hodd
    clear hN hu hodd
    by_cases hm : mayF N = true
    · have HM := Lib.hid hm
      have ho2 : Hid (oddF x = decide (8 + N ≤ n - K)) := Lib.hid (by rw [HO.out, hm]; simp)
      clear hm HO
      go_wp2_with (first | (go_at_call 74; refine (funword_any b (o + K) (n - K) (c - K) (x.drop K) _ (HXT.out.ext (by with_reducible (repeat (first | exact Ext.rfl_ _ | assumption | refine Ext.drew ?_ | refine Ext.drewN ?_ _ | refine Ext.alloc ?_ _ | refine Ext.trans ?_ (by assumption))))) (by omega)).mono ?_; rintro e w2 ⟨rfl, hw2⟩; rw [HU.out]) | (go_at_call 55; refine (fmay_any N _).mono ?_; rintro e w3 ⟨rfl, rfl⟩; rw [HM.out]) | (go_at_call 43; refine (fsize_any N _ HM.out).mono ?_; rintro e w4 ⟨rfl, rfl⟩))
      go_ret
      exact ⟨ret_bool (by rw [ho2.out]; exact decide_eq_decide.2 (by omega)), (by with_reducible (repeat (first | exact Ext.rfl_ _ | assumption | refine Ext.drew ?_ | refine Ext.drewN ?_ _ | refine Ext.alloc ?_ _ | refine Ext.trans ?_ (by assumption))))⟩
    · have hmf : mayF N = false := by simpa using hm
      have HM := Lib.hid hmf
      have ho2 : Hid (oddF x = true) := Lib.hid (by rw [HO.out, hmf]; simp)
      clear hm hmf HO
      go_wp2_with (first | (go_at_call 74; refine (funword_any b (o + K) (n - K) (c - K) (x.drop K) _ (HXT.out.ext (by with_reducible (repeat (first | exact Ext.rfl_ _ | assumption | refine Ext.drew ?_ | refine Ext.drewN ?_ _ | refine Ext.alloc ?_ _ | refine Ext.trans ?_ (by assumption))))) (by omega)).mono ?_; rintro e w2 ⟨rfl, hw2⟩; rw [HU.out]) | (go_at_call 55; refine (fmay_any N _).mono ?_; rintro e w3 ⟨rfl, rfl⟩; rw [HM.out]))
      go_ret
      exact ⟨ret_bool ho2.out.symm, (by with_reducible (repeat (first | exact Ext.rfl_ _ | assumption | refine Ext.drew ?_ | refine Ext.drewN ?_ _ | refine Ext.alloc ?_ _ | refine Ext.trans ?_ (by assumption))))⟩

end Go.Proofs.Ythdahmicjlplcaa
