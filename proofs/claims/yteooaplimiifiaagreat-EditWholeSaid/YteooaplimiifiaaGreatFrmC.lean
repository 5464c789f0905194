/- What frame.All goes over. Conditions: the bytes read. -/
/- Contracts of frame.Whole and frame.Odd. Conditions: the bytes read. -/
import Derived.Test.YteooaplimiifiaaGreatCrcA
import Derived.Test.YteooaplimiifiaaGreatIter
import Derived.Test.YteooaplimiifiaaGreatRegR
namespace Go.Proofs.YteooaplimiifiaaGreat
set_option linter.unusedSimpArgs false
set_option linter.unusedVariables false
set_option maxRecDepth 100000
open Go.RowKit Go.Shelf
attribute [local go_sem] Oper.semAt_some

set_option maxHeartbeats 400000 in
theorem frall_any (A : Option Addr) (n c : Nat) (w : World) :
    Calls Tryz.prog 36 #[.slice A n c] w fun e w' => e = .returned (.func (.func 57) #[] #[.pointer (some ⟨w.heap.size, 0, none⟩)]) ∧ w' = w.alloc (.cells #[.slice A n c] 35) := by
  go_enter Tryz.func36, Tryz.ntmps36
  go_wp2
  go_ret
  exact ⟨rfl, rfl⟩

/-- What is handed over: the place, and a slice that reads as the payload. -/
def OkF (kp : Nat × Bs) (vs : Array Value) (W : World) : Prop := ∃ A n c, vs = #[.int .i64 (kp.1 : Nat), .slice A n c] ∧ Rd W A n kp.2 ∧ n ≤ c

set_option maxRecDepth 100000 in
set_option maxHeartbeats 4000000 in
theorem frall1_seq (A : Option Addr) (n c g : Nat) (x : Bs) (S : Nat → Prop) (w00 w0 : World) (hx : Rd w00 A n x) (hnc : n ≤ c) (hn : n ≤ B40) (h0 : Ext w00 w0) (hS : ∀ k, S k → w00.heap.size ≤ k)
    (hg : w0.cell? ⟨g, 0, none⟩ = some (.slice A n c)) (hgS : ¬ S g) :
    SeqT Tryz.prog 57 #[.pointer (some ⟨g, 0, none⟩)] OkF S (atsF 0 (frs x)) w0 := by
  intro num l J Jx W hW hJ hJx hY hJ0
  have hg1 := hW.keeps' hg
  have hgW := cell_lt hg1
  have h0W := h0.trans hW
  have HX := Lib.hid hx
  have hxl := hx.1
  have hnb := hn
  unfold B40 at hn
  clear hg hx
  refine callsIn_of_wp Tryz.func57 rfl trivial ?_ rfl
  simp only [Tryz.ntmps57, List.size_toArray, List.length_cons, List.length_nil, Nat.reduceAdd, Nat.reduceSub, Array.replicate_succ, Array.replicate_zero, List.push_toArray, List.append_toArray, List.nil_append, List.cons_append]
  gi_wp2
  refine wpIn_scope_wide ?_
  gi_wp2
  refine wpIn_label ?_
  gi_wp2
  gi_loopw [3] (fun i wr => ∃ (k : Nat) (ps : List Bs), i = .int .i64 k ∧ Hid (GF x ps k) ∧ k ≤ n ∧ Hid (J (atsF 0 ps) (fun _ => False) wr) ∧ Hid (Kept (fun j => j < W.heap.size ∧ ¬ S j) W wr)) (fun i _ => n - (intOf i).toNat)
  case atStart => exact ⟨0, [], rfl, Lib.hid (GF.start x), Nat.zero_le _, Lib.hid hJ0, Lib.hid (Kept.rfl_ _ _)⟩
  case round =>
    obtain ⟨k, ps, rfl, HGF, hk, HJ, HKP⟩ := hrel
    have hzr := HKP.out.ext_of h0W (fun j hj => ⟨Nat.lt_of_lt_of_le hj h0W.size, fun h => by have := hS j h; omega⟩)
    have hgr := HKP.out.cell hg1 ⟨hgW, hgS⟩
    have HZR := Lib.hid hzr
    have HXr := Lib.hid (HX.out.ext hzr)
    clear hzr
    have hk64 : IntKind.i64.wrap (k : Int) = (k : Int) := by rw [IntKind.wrap_i64]; omega
    by_cases hkc : k = n
    · have hend : ¬ isF (x.drop k) = true := by
        rw [List.drop_of_length_le (by omega)]; decide
      have HE := Lib.hid (HGF.out.end_ hend)
      have hJE : J (atsF 0 (frs x)) (fun _ => False) wr := by rw [HE.out.1]; exact HJ.out
      have HJE := Lib.hid hJE
      have hf : isF ([] : Bs) = false := by decide
      have HF := Lib.hid hf
      clear hend hJE hf
      subst hkc
      have hcc : (k : Int) ≤ (c : Int) := by omega
      gi_wp2
      all_goals
        refine ⟨trivial, fun h => (by simp [Fence.wide] at h), ?_⟩
        refine (callsIn_wide.2 (first_any _ _ _ [] _ (Rd.nil _ _) (Nat.zero_le _) (by decide))).mono ?_
        rintro e w1 ⟨A1, n1, c1, rfl, -, hw1⟩
        rw [HF.out]
        have HJ1 := Lib.hid (hJ _ _ (fun _ => False) _ w1 HJE.out (Kept.of_ext hw1) (fun _ h => h) (fun _ h => .inl h))
        clear hw1
        gi_wp2
        refine ⟨trivial, ?_⟩
        gi_wp2
        refine ⟨fun _ h => (by cases h), ?_⟩
        gi_wp2
        rw [Exit.noGoto_normal]
        go_end0
        exact ⟨⟨_, rfl⟩, .inl ⟨_, HJ1.out⟩⟩
    · have hkn : k < n := by omega
      obtain ⟨b, o, rfl, _⟩ := HX.out.2 (by omega)
      have hkc' : ¬ c = k := by omega
      have hcc : (k : Int) ≤ (c : Int) := by omega
      have hnn : (k : Int) ≤ (n : Int) := by omega
      have HXT := Lib.hid (HXr.out.back k (by omega))
      clear HXr
      gi_wp2
      refine ⟨trivial, fun h => (by simp [Fence.wide] at h), ?_⟩
      refine (callsIn_wide.2 (first_any _ (n - k) (c - k) (x.drop k) _ HXT.out (by omega) (by unfold B40; omega))).mono ?_
      rintro e w1 ⟨A1, n1, c1, rfl, hr1, hw1⟩
      by_cases hF : isF (x.drop k) = true
      · obtain ⟨hq1, hnc1⟩ := hr1 hF
        rw [hF]
        have hlF := isF_len hF
        have hplF := plF_len hF
        rw [List.length_drop] at hlF
        have hn1 : n1 = nF (x.drop k) := by rw [← hq1.1]; exact hplF
        have HR1 := Lib.hid hq1
        have HGF2 := Lib.hid (HGF.out.step hF)
        have HMAY : Hid (mayF n1 = true) := Lib.hid (by unfold mayF; rw [hn1]; simp; omega)
        have hats : atsF 0 (ps ++ [plF (x.drop k)]) = atsF 0 ps ++ [(k, plF (x.drop k))] := by
          rw [atsF_app, Nat.zero_add, ← HGF.out.1]; rfl
        have hpf : atsF 0 ps ++ [(k, plF (x.drop k))] <+: atsF 0 (frs x) := by
          rw [← hats, HGF2.out.2.2, atsF_app 0 (ps ++ [plF (x.drop k)])]
          exact List.prefix_append _ _
        have HATS := Lib.hid hats
        have HPF := Lib.hid hpf
        have HJ1 := Lib.hid (hJ _ _ (fun _ => False) _ w1 HJ.out (Kept.of_ext hw1) (fun _ h => h) (fun _ h => .inl h))
        have HK1 := Lib.hid (HKP.out.then_ hw1)
        have hnb47 : n1 ≤ B47 := by unfold B47; omega
        have hnx : n1 + 8 + k ≤ n := by omega
        rw [← hn1] at HGF2
        obtain ⟨p, hp⟩ : ∃ p, p = plF (x.drop k) := ⟨_, rfl⟩
        rw [← hp] at HR1 HGF2 HATS HPF
        clear hr1 hq1 hw1 hF hats hpf hlF hplF hn1 hp HJ HKP HGF HXT
        gi_wp2
        refine ⟨trivial, fun h => (by simp [Fence.wide] at h), ?_⟩
        refine (callsIn_wide.2 (bclone_any A1 n1 c1 p _ HR1.out hnb47)).mono ?_
        rintro e w2 ⟨v2, rfl, hcp, -, hw2⟩
        obtain ⟨A2, c2, rfl, hr2, hnc2, -⟩ := hcp.rd
        have hpl : p.length = n1 := HR1.out.1
        rw [hpl] at hr2 hnc2 ⊢
        have HR2 := Lib.hid hr2
        have HJ2 := Lib.hid (hJ _ _ (fun _ => False) _ w2 HJ1.out (Kept.of_ext hw2) (fun _ h => h) (fun _ h => .inl h))
        have HK2 := Lib.hid (HK1.out.then_ hw2)
        clear hr2 hcp hw2 HJ1 HK1 hpl
        gi_wp2
        obtain ⟨fn, tmps, assign, body, hy, hRd⟩ := hY _ (k, p) #[.int .i64 (k : Nat), .slice A2 n1 c2] (fun _ => False) w2 (num - 1) HJ2.out HPF.out ⟨A2, n1, c2, rfl, HR2.out, hnc2⟩ (fun _ h => h.elim) HK2.out.size
        rw [hy]
        refine ⟨fun h => (by simp [Fence.wide] at h), ?_⟩
        refine RoundIn.mono hRd ?_
        rintro e W3 hE
        rcases hE with ⟨rfl, hJ3, hk3⟩ | ⟨rfl, hJ3, hk3⟩
        · have HK3 := Lib.hid (HK2.out.trans (hk3.mono fun k hk => .inr hk))
          have HJ3 := Lib.hid hJ3
          have hwr8 : IntKind.i64.wrap ((k : Int) + ((8 + n1 : Nat) : Int)) = ((k + (8 + n1) : Nat) : Int) := by rw [IntKind.wrap_i64]; omega
          clear hJ3 hk3 hy hRd
          gi_wp2
          refine ⟨trivial, fun h => (by simp [Fence.wide] at h), ?_⟩
          refine (callsIn_wide.2 (fsize_any n1 _ HMAY.out)).mono ?_
          rintro e w4 ⟨rfl, rfl⟩
          gi_wp2
          go_roundw
          case rel => exact ⟨k + (8 + n1), ps ++ [p], rfl, HGF2, by omega, Lib.hid (by rw [HATS.out]; exact HJ3.out), HK3⟩
          case measure => simp [intOf]; omega
        · have HJ3 := Lib.hid hJ3
          clear hJ3 hk3 hy hRd
          gi_wp2
          rw [Exit.noGoto_normal]
          go_end0
          exact ⟨⟨_, rfl⟩, .inr ⟨_, _, HPF.out, HJ3.out⟩⟩
      · have HE := Lib.hid (HGF.out.end_ hF)
        have hF' : isF (x.drop k) = false := by simpa using hF
        have HJ1 := Lib.hid (hJ _ _ (fun _ => False) _ w1 HJ.out (Kept.of_ext hw1) (fun _ h => h) (fun _ h => .inl h))
        rw [hF']
        clear hr1 hF hF' hw1
        gi_wp2
        refine ⟨trivial, ?_⟩
        gi_wp2
        refine ⟨fun _ h => (by cases h), ?_⟩
        gi_wp2
        rw [Exit.noGoto_normal]
        go_end0
        exact ⟨⟨_, rfl⟩, .inl ⟨_, by rw [HE.out.1]; exact HJ1.out⟩⟩


open Go.RowKit Go.Shelf
attribute [local go_sem] Oper.semAt_some

theorem atsF_at {pre : List (Nat × Bs)} {k j : Nat} {p : Bs} {ps : List Bs} (h : pre ++ [(k, p)] <+: atsF j ps) : k = j + endF (pre.map Prod.snd) ∧ p ∈ ps := by
  induction pre generalizing j ps with
  | nil =>
    cases ps with
    | nil => simp [atsF] at h
    | cons q ps =>
      rw [atsF, List.nil_append] at h
      have := (List.cons_prefix_cons.1 h).1
      cases this
      exact ⟨by simp [endF], List.mem_cons_self ..⟩
  | cons a pre ih =>
    cases ps with
    | nil => simp [atsF] at h
    | cons q ps =>
      rw [atsF, List.cons_append] at h
      obtain ⟨h1, h2⟩ := List.cons_prefix_cons.1 h
      obtain ⟨h3, h4⟩ := ih h2
      refine ⟨?_, List.mem_cons_of_mem _ h4⟩
      rw [List.map_cons, endF, h1, h3]
      simp only
      omega

structure WhoI (w : World) (pre : List (Nat × Bs)) (T : Nat → Prop) (Wc : World) : Prop where
  num : Wc.cell? ⟨w.heap.size, 0, none⟩ = some (.int .i64 pre.length)
  numF : Wc.frozen? ⟨w.heap.size, 0, none⟩ = false
  sum : Wc.cell? ⟨w.heap.size + 1, 0, none⟩ = some (.int .i64 (endF (pre.map Prod.snd) : Nat))
  sumF : Wc.frozen? ⟨w.heap.size + 1, 0, none⟩ = false
  ext : Ext w Wc
  size : w.heap.size + 3 ≤ Wc.heap.size
  t : ∀ k, T k → w.heap.size + 3 ≤ k

theorem WhoI.kept {w : World} {pre : List (Nat × Bs)} {T T' : Nat → Prop} {Wc W' : World} (h : WhoI w pre T Wc)
    (k : Kept (fun k => k < w.heap.size + 3) Wc W') (ht : ∀ k, T' k → w.heap.size + 3 ≤ k) : WhoI w pre T' W' := by
  have hz := h.size
  refine ⟨k.cell h.num (by simp), ?_, k.cell h.sum (by simp), ?_, k.ext_of h.ext (fun j hj => by omega), Nat.le_trans hz k.size, ht⟩
  · rw [k.frozen (by simp; omega) (by simp)]; exact h.numF
  · rw [k.frozen (by simp; omega) (by simp)]; exact h.sumF

theorem WhoI.ab (w : World) : AbI (w.heap.size + 3) (WhoI w) := by
  intro pre T T' Wc W' h hk hs hn
  have hz := h.size
  exact h.kept (hk.mono fun k hx => ⟨fun h' => by have := h.t _ h'; omega, by omega, by omega⟩) (fun k h' => (hn k h').elim (h.t k) (fun h => by omega))



end Go.Proofs.YteooaplimiifiaaGreat
