/- merge.Join's iterator: the walk. Conditions: the inner iterators' contracts; one of them at least. -/
import Derived.Test.YtmmoopioiheleaaMgH
namespace Go.Proofs.Ytmmoopioiheleaa
set_option linter.unusedSimpArgs false
set_option linter.unusedVariables false
open Go.RowKit Go.Shelf
attribute [local go_sem] Oper.semAt_some

theorem noGoto_back {Q : Exit → Act → World → Prop} {a : Act} {w : World} (h : Q .ret a w) : Exit.noGoto Q .ret a w := h
theorem join_any (A : Option Addr) (n c : Nat) (w : World) :
    Calls Try.prog 15 #[.slice A n c] w fun e w' => e = .returned (.func (.func 28) #[] #[.pointer (some ⟨w.heap.size, 0, none⟩)]) ∧ w' = w.alloc (.cells #[.slice A n c] 54) := by
  go_enter Try.func15, Try.ntmps15
  go_wp2
  go_ret
  exact ⟨rfl, rfl⟩

theorem RowA.form {w : World} {base : Nat} {v : Value} {LL : List (List Ent)} (h : RowA w base v LL) (hp : 0 < LL.length) : ∃ g cap, ∃ vs : List Value, v = .slice (some ⟨g, 0, none⟩) LL.length cap ∧ LL.length ≤ cap ∧ base ≤ g ∧ g < w.heap.size ∧ (∃ cs, w.heap[g]? = some (.cells cs 22 (0, 0))) ∧ vs.length = LL.length ∧
    ∀ i (h : i < LL.length) (hv : i < vs.length), w.cell? ⟨g, i, none⟩ = some vs[i] ∧ ∃ A n c, vs[i] = .slice A n c ∧ n ≤ c ∧ OwnF w base (.slice A n c) LL[i] := by
  obtain ⟨vs, ho, h1⟩ := h
  have hvl : vs.length = LL.length := by have := ho.1; simpa using this
  have hlt := ho.lt
  rcases ho.2 with ⟨rfl, h0⟩ | ⟨g, cap, cur, rfl, hb, hg, hle, _⟩
  · omega
  · refine ⟨g, cap, vs, rfl, hle, hb, (hlt g rfl).2, ⟨_, hg⟩, hvl, fun i hi hv => ?_⟩
    obtain ⟨A, n, c, e1, e2, e3⟩ := h1 i hi
    have e1' : vs[i] = .slice A n c := (List.getElem?_eq_some_iff.1 e1).2
    exact ⟨by rw [World.ownsRow.cellAt ho i (by omega), e1, e1'], A, n, c, e1', e2, e3⟩

set_option maxRecDepth 100000 in
set_option maxHeartbeats 8000000 in
theorem join_iter (gl m cl g1 : Nat) (gs : List (Nat × Array Value)) (LL0 : List (List Ent)) (w0 : World) (hfn : FnS w0 gl gs LL0) (hm : LL0.length = m) (hpos : 0 < m) (hm2 : m ≤ 1000) (hcl : m ≤ cl)
    (h1 : w0.cell? ⟨g1, 0, none⟩ = some (.slice (some ⟨gl, 0, none⟩) m cl)) :
    Iter 28 #[.pointer (some ⟨g1, 0, none⟩)] (joinL LL0) w0 := by
  refine ⟨enters_of Try.func28 (by kernel_rfl) rfl, fun Wa hWa S Wb hS hWb => ?_⟩
  intro num l J Jx W hW hJ hJx hY hJ0
  have hX0 := (hWa.trans hWb).trans hW
  have HS : Hid (∀ k, k < w0.heap.size → k < W.heap.size ∧ ¬ S k) := Lib.hid fun k hk => ⟨Nat.lt_of_lt_of_le hk hX0.size, fun h => by have h1 := hS k h; have h2 := hWa.size; omega⟩
  have b1 := hX0.keeps' h1
  have HFN := Lib.hid hfn
  clear h1 hfn
  refine callsIn_of_wp Try.func28 rfl trivial ?_ rfl
  simp only [Try.ntmps28, List.size_toArray, List.length_cons, List.length_nil, Nat.reduceAdd, Nat.reduceSub, Array.replicate_succ, Array.replicate_zero, List.push_toArray, List.append_toArray, List.nil_append, List.cons_append]
  refine wpIn_scope_wide ?_
  gi_wp2
  gi_loopw [3, 12] (fun va u wr => ∃ (k : Nat) (v3 : Value), u = .int .i64 k ∧ k ≤ m ∧ va = v3 ∧ Hid (RowA wr W.heap.size v3 (LL0.take k)) ∧ Hid (Ext W wr)) (fun _ u _ => m - (intOf u).toNat)
  case atStart => exact ⟨0, _, rfl, Nat.zero_le _, rfl, Lib.hid (RowA.nil _ _), Lib.hid (Ext.rfl_ _)⟩
  case round =>
    obtain ⟨k, v3, rfl, hk, rfl, HRA, HX⟩ := hrel
    by_cases hkm : k < m
    · have hkmI : (k : Int) < (m : Int) := by omega
      have hwr : IntKind.i64.wrap ((k : Int) + 1) = ((k + 1 : Nat) : Int) := by rw [IntKind.wrap_i64]; omega
      have hgl : k < gs.length := by rw [HFN.out.1]; omega
      have hll : k < LL0.length := by omega
      obtain ⟨hc, hit, hlen⟩ := HFN.out.2 k hgl hll
      have c0 := (hX0.trans HX.out).keeps' hc
      have HIT := Lib.hid hit
      have HTK : Hid (LL0.take (k + 1) = LL0.take k ++ [LL0[k]]) := Lib.hid (List.take_succ_eq_append_getElem hll)
      clear hc hit
      gi_wp2
      refine ⟨trivial, fun h => (by simp [Fence.wide] at h), ?_⟩
      refine (callsIn_wide.2 (collect_it HIT.out (hX0.trans HX.out) hlen)).mono ?_
      rintro e w5 ⟨v5, rfl, o5, hw5⟩
      obtain ⟨A5, n5, c5, rfl, l5, _, _⟩ := o5.ownL.formN (by unfold B41; omega)
      obtain ⟨v7, w7, hrun, o7, g7⟩ := app_oneS 55 22 W.heap.size _ (LL0.take k) w5 A5 n5 c5 LL0[k] (HRA.out.ext hw5) (o5.low HX.out.size) l5 (by rw [List.length_take]; omega) (HX.out.trans hw5).size
      have HRUN := Lib.hid hrun
      have HRA7 := Lib.hid (show RowA w7 W.heap.size v7 (LL0.take (k + 1)) from by rw [HTK.out]; exact o7)
      have HX7 := Lib.hid (show Ext W w7 from ((HX.out.trans hw5).trans (Ext.alloc (Ext.rfl_ w5) _)).grown g7 (fun g hg => ((HRA.out.ext hw5).lt g hg).1))
      clear o5 o7 g7 hrun hw5
      gi_wp2_with (refine wpi_append rfl _ _ rfl _ _ _ rfl rfl HRUN.out ?_)
      go_roundw
      case rel => exact ⟨k + 1, _, by go_num, by omega, rfl, HRA7, HX7⟩
      case measure => simp [intOf]; omega
    · have hkm2 : k = m := by omega
      subst hkm2
      have hnlt : ¬ (k : Int) < (k : Int) := by omega
      have e0 : LL0.take k = LL0 := List.take_of_length_le (by omega)
      rw [e0] at HRA
      obtain ⟨g, cap, vs0, rfl, hcap, hgb, hglt, ⟨gcs, hgT⟩, hvl, hrow⟩ := HRA.out.form (by omega)
      rw [hm] at hcap
      obtain ⟨w2, hw2⟩ : ∃ w2, w2 = wr.alloc (.cells #[.slice none 0 0, .int .i64 0, .int .i64 0, .slice none 0 0] 37) := ⟨_, rfl⟩
      have x2 : Ext wr w2 := by rw [hw2]; exact Ext.alloc (Ext.rfl_ _) _
      have z2 : w2.heap.size = wr.heap.size + 1 := by rw [hw2, World.size_alloc]
      have hl2 := blk1 wr (.cells #[.slice none 0 0, .int .i64 0, .int .i64 0, .slice none 0 0] 37)
      rw [← hw2] at hl2
      have HST : Hid (StJ w2 W.heap.size g wr.heap.size vs0 LL0) := Lib.hid ⟨hvl, fun i h h2 => by
          obtain ⟨_, A, n, c, e1, e2, e3⟩ := hrow i h2 h
          rw [e1]
          refine ⟨e3.ext x2, (HFN.out.2 i (by rw [HFN.out.1]; exact h2) h2).2.2, fun b hb => ⟨?_, by have := (e3.lt b hb).2; omega⟩⟩
          rintro rfl
          obtain ⟨_, _, ho, _⟩ := e3
          rcases ho.2 with ⟨hv, _⟩ | ⟨g', cap', cur', hv, _, hg', _⟩
          · rw [hv] at hb; cases hb
          · rw [hv] at hb; cases hb
            rw [hgT] at hg'
            simp at hg', ⟨_, x2.blk hgT⟩, ⟨_, hl2⟩, hgb, HX.out.size⟩
      have HDY : Hid (DyJ w2 W.heap.size g wr.heap.size vs0 LL0 LL0 none w2) := Lib.hid ⟨rfl, fun i h0 h hv => by
          obtain ⟨e0, A, n, c, e1, e2, e3⟩ := hrow i h0 hv
          obtain ⟨A', n', c', e4, _, hr, _⟩ := e3.ownL.formN (by have := (HFN.out.2 i (by rw [HFN.out.1]; exact h0) h0).2.2; unfold B41; omega)
          cases e4
          refine ⟨0, A, n, c, rfl, Nat.zero_le _, hr.1.symm, e2, by rw [x2.keeps _ _ _ e0, e1], fun hn => ?_⟩
          obtain ⟨gg, cc, _, hvv, _⟩ := e3.at_ (k := 0) (by rw [hr.1]; exact hn)
          cases hvv
          exact ⟨gg, _, by rw [Nat.zero_mul], e1⟩, ⟨_, x2.blk hgT⟩, ⟨_, _, _, _, hl2, fun y hy => by cases hy⟩, Kept.rfl_ _ _⟩
      obtain ⟨T, hT⟩ : ∃ T : Nat → Prop, T = fun j => W.heap.size ≤ j ∧ j < w2.heap.size := ⟨_, rfl⟩
      obtain ⟨M, hM⟩ : ∃ M : Nat → Prop, M = fun j => j = g ∨ j = wr.heap.size := ⟨_, rfl⟩
      have HTT := Lib.hid (fun k => by rw [hT] : ∀ k, T k ↔ W.heap.size ≤ k ∧ k < w2.heap.size)
      have HMM := Lib.hid (fun k => by rw [hM] : ∀ k, M k ↔ k = g ∨ k = wr.heap.size)
      have HMT : Hid (∀ k, M k → T k) := Lib.hid fun j hj => by
        rcases (HMM.out j).1 hj with rfl | rfl
        · exact (HTT.out _).2 ⟨hgb, by omega⟩
        · exact (HTT.out _).2 ⟨HX.out.size, by omega⟩
      have HX2 := Lib.hid (HX.out.trans x2)
      have HJ2 : Hid (J [] T M w2) := Lib.hid (hJ _ _ T _ M _ w2 hJ0 (Kept.of_ext HX2.out) (U8.of_ext HX2.out) (fun _ h => h.elim) (fun k h => .inr ((HTT.out k).1 h).1) (fun _ h => h.elim) (fun k h => .inr ((HTT.out k).1 (HMT.out k h)).1))
      have HK2 : Hid (Kept (fun j => j < W.heap.size ∧ ¬ S j) W w2) := Lib.hid (Kept.of_ext HX2.out)
      obtain ⟨lb, hlb⟩ : ∃ lb, lb = wr.heap.size := ⟨_, rfl⟩
      rw [← hlb] at HST HDY HMM hl2 z2 hglt
      clear hT hM hrow x2 HRA HX hgT hvl
      gi_wp2
      rw [← hw2, ← hlb]
      clear hw2 hlb
      refine wpIn_label ?_
      gi_wp2
      gi_loopw [7] (fun va wr => ∃ (LL : List (List Ent)) (last : Option Ent) (out : List Ent) (f : Nat), va = .bool last.isSome ∧ Hid (DyJ w2 W.heap.size g lb vs0 LL0 LL last wr) ∧ Hid (J out T M wr) ∧ Hid (Kept (fun j => j < W.heap.size ∧ ¬ S j) W wr) ∧ Hid (out ++ joinF f LL last = joinL LL0 ∧ (LL.map List.length).sum < f) ∧ Hid (w2.heap.size ≤ wr.heap.size)) (fun _ wr => jnM g LL0.length wr)
      case atStart => exact ⟨LL0, none, [], _, rfl, HDY, HJ2, HK2, Lib.hid ⟨rfl, Nat.lt_succ_self _⟩, Lib.hid (Nat.le_refl _)⟩
      case round =>
        rename_i wr0 _
        obtain ⟨LL, last, out, f, rfl, HD, HJ, HK, HO, HZ⟩ := hrel
        have hLL : LL.length = LL0.length := HD.out.len
        gi_wp2
        refine ⟨trivial, fun h => (by simp [Fence.wide] at h), ?_⟩
        refine (callsIn_wide.2 (least_any g _ cap LL _ (HD.out.rows HST.out) (by omega) (by omega) (by omega))).mono ?_
        rintro e w4 ⟨rfl, hw4⟩
        rw [← hm]
        cases hl : lstF LL LL0.length with
        | none =>
          have HJN := Lib.hid (show J (joinL LL0) T M w4 from by
            have e1 := HO.out.1
            rw [joinF_none (by rw [hLL]; exact hl), List.append_nil] at e1
            rw [← e1]
            exact hJ _ _ T _ M _ w4 HJ.out (Kept.of_ext hw4) (U8.of_ext hw4) (fun _ h => h) (fun _ h => .inl h) (fun _ h => h) (fun _ h => .inl h))
          rw [show lstI none = -1 from rfl]
          clear hl
          gi_wp2
          refine noGoto_back ?_
          refine bodyPost_ret (results_none rfl _ _ _) rfl ?_
          exact ⟨⟨_, rfl⟩, .inl ⟨T, M, HJN.out⟩⟩
        | some i =>
          rw [show lstI (some i) = (i : Int) from rfl]
          obtain ⟨hik, e, r, hie⟩ := lstF_lt LL _ i hl
          have HD4 := Lib.hid (HD.out.ext hw4)
          obtain ⟨b, p, c, c0, q, hil, hiv, hcell, hrc, hdr, hpl, hv0, ⟨d0, d1, d2, d3⟩, hfe⟩ := HD4.out.head HST.out hie
          have hiI : (i : Int) < (k : Int) := by omega
          have hi0 : ¬ (i : Int) < 0 := by omega
          have hi00 : (0 : Int) ≤ (i : Int) := by omega
          have HFE := Lib.hid hfe
          have HIE := Lib.hid hie
          have HDR := Lib.hid hdr
          have HLS := Lib.hid hl
          clear hfe hie hdr hl
          obtain ⟨cc, rfl⟩ : ∃ cc, c = cc + 1 := ⟨c - 1, by omega⟩
          obtain ⟨wb, hwb⟩ : ∃ wb, wb = w4.alloc (.cells #[.slice q.A q.n q.c, .int .i64 e.seq, .int .i64 e.kind, .slice q.B q.m q.d] 37) := ⟨_, rfl⟩
          have xb : Ext w4 wb := by rw [hwb]; exact Ext.alloc (Ext.rfl_ _) _
          have HDB := Lib.hid (HD4.out.ext xb)
          have f1 := xb.keeps _ _ _ hcell
          obtain ⟨gcs2, hg2⟩ := HDB.out.gT
          have f2 := blk_frozen (o := i) hg2
          rw [hwb] at f1 f2
          have hbx := blk1 w4 (.cells #[.slice q.A q.n q.c, .int .i64 e.seq, .int .i64 e.kind, .slice q.B q.m q.d] 37)
          rw [← hwb] at hbx
          have HMG : Hid (M g) := Lib.hid ((HMM.out g).2 (.inl rfl))
          have HML : Hid (M lb) := Lib.hid ((HMM.out lb).2 (.inr rfl))
          have HGB : Hid (¬ g < W.heap.size) := Lib.hid (by omega)
          have HLB : Hid (¬ lb < W.heap.size) := Lib.hid (by have := HST.out.lbb; omega)
          have hw4z : lb < w4.heap.size := by have := HZ.out; have := hw4.size; omega
          have HNG : Hid (w4.heap.size ≠ g) := Lib.hid (by omega)
          have HNB : Hid (w4.heap.size ≠ lb) := Lib.hid (by omega)
          obtain ⟨f1, rfl⟩ : ∃ f1, f = f1 + 1 := ⟨f - 1, by have := HO.out.2; omega⟩
          have HSM : Hid (((LL.set i r).map List.length).sum < f1) := Lib.hid (by have := HO.out.2; have := sum_set HIE.out; omega)
          cases cc with
          | zero =>
            have hr0 : r.length = 0 := by omega
            obtain ⟨wc, hwc⟩ : ∃ wc, wc = wb.setCell ⟨g, i, none⟩ (.slice (some ⟨b, p * 4, none⟩) 0 0) := ⟨_, rfl⟩
            have HDC := Lib.hid (show DyJ w2 W.heap.size g lb vs0 LL0 (LL.set i r) last wc from by rw [hwc]; exact HDB.out.take HST.out HIE.out hil hiv HDR.out hpl hv0 _ 0 0 (hr0.symm) (fun h => absurd h (by omega)) (Nat.le_refl _))
            have kbc : Kept (fun j => ¬ M j) wb wc := by rw [hwc]; exact (Kept.rfl_ _ wb).setCell (fun h => h HMG.out) _
            have u8c : U8 wb wc := by rw [hwc]; exact U8.set hg2 (by decide)
            have kbc2 : Kept (fun j => j < W.heap.size ∧ ¬ S j) wb wc := by rw [hwc]; exact (Kept.rfl_ _ wb).setCell (fun h => HGB.out h.1) _
            have HJC := Lib.hid (hJ _ _ T _ M _ wc (hJ _ _ T _ M _ wb HJ.out (Kept.of_ext (hw4.trans xb)) (U8.of_ext (hw4.trans xb)) (fun _ h => h) (fun _ h => .inl h) (fun _ h => h) (fun _ h => .inl h)) kbc u8c (fun _ h => h) (fun _ h => .inl h) (fun _ h => h) (fun _ h => .inl h))
            have HKC := Lib.hid ((HK.out.then_ (hw4.trans xb)).trans kbc2)
            have HZC := Lib.hid (Nat.le_trans HZ.out (Nat.le_trans (hw4.trans xb).size kbc.size))
            have HEC : Hid (wc.cell? ⟨w4.heap.size, 0, none⟩ = some (.slice q.A q.n q.c) ∧ wc.cell? ⟨w4.heap.size, 1, none⟩ = some (.int .i64 e.seq) ∧ wc.cell? ⟨w4.heap.size, 2, none⟩ = some (.int .i64 e.kind) ∧ wc.cell? ⟨w4.heap.size, 3, none⟩ = some (.slice q.B q.m q.d)) := Lib.hid (by
              obtain ⟨r0, r1, r2, r3, _⟩ := box4 hbx (Ext.rfl_ wb)
              have hne : ∀ o, (⟨g, i, none⟩ : Addr) ≠ ⟨w4.heap.size, o, none⟩ := fun o h => HNG.out (congrArg Addr.block h).symm
              rw [hwc, World.cell?_setCell_other _ _ _ _ (hne 0), World.cell?_setCell_other _ _ _ _ (hne 1), World.cell?_setCell_other _ _ _ _ (hne 2), World.cell?_setCell_other _ _ _ _ (hne 3)]
              exact ⟨r0, r1, r2, r3⟩)
            clear kbc u8c kbc2
            cases last with
            | none =>
              have HNC : Hid (∀ y, (none : Option Ent) = some y → cmpE y e ≠ 0) := Lib.hid (fun y h => by cases h)
              rw [show (none : Option Ent).isSome = false from rfl]
              gi_wp2
              rw [← hwb, ← hwc]
              clear hwb hwc f1 f2
              refine ⟨trivial, ?_⟩
              have HOUT : Hid ((out ++ [e]) ++ joinF f1 (LL.set i r) (some e) = joinL LL0) := Lib.hid (by
                rw [← HO.out.1, joinF_new (by rw [hLL]; exact HLS.out) HIE.out HNC.out]
                simp)
              obtain ⟨wd, hwd⟩ : ∃ wd, wd = (((wc.setCell ⟨lb, 0, none⟩ (.slice q.A q.n q.c)).setCell ⟨lb, 1, none⟩ (.int .i64 e.seq)).setCell ⟨lb, 2, none⟩ (.int .i64 e.kind)).setCell ⟨lb, 3, none⟩ (.slice q.B q.m q.d) := ⟨_, rfl⟩
              have HDD := Lib.hid (show DyJ w2 W.heap.size g lb vs0 LL0 (LL.set i r) (some e) wd from by rw [hwd]; exact HDC.out.put HST.out q e HFE.out)
              obtain ⟨aL, bL, cL, dL, hLb, _⟩ := HDC.out.lT
              have kcd : Kept (fun j => ¬ M j) wc wd := by rw [hwd]; exact ((((Kept.rfl_ _ wc).setCell (fun h => h HML.out) _).setCell (fun h => h HML.out) _).setCell (fun h => h HML.out) _).setCell (fun h => h HML.out) _
              have u8d : U8 wc wd := fun j cs fr hj => by
                by_cases hjl : j = lb
                · subst hjl; rw [hLb] at hj; simp at hj
                · rw [hwd, Below.heap_setCell _ _ _ _ (fun h => hjl h), Below.heap_setCell _ _ _ _ (fun h => hjl h), Below.heap_setCell _ _ _ _ (fun h => hjl h), Below.heap_setCell _ _ _ _ (fun h => hjl h)]; exact hj
              have kcd2 : Kept (fun j => j < W.heap.size ∧ ¬ S j) wc wd := by rw [hwd]; exact ((((Kept.rfl_ _ wc).setCell (fun h => HLB.out h.1) _).setCell (fun h => HLB.out h.1) _).setCell (fun h => HLB.out h.1) _).setCell (fun h => HLB.out h.1) _
              have HJD := Lib.hid (hJ _ _ T _ M _ wd HJC.out kcd u8d (fun _ h => h) (fun _ h => .inl h) (fun _ h => h) (fun _ h => .inl h))
              have HKD := Lib.hid (HKC.out.trans kcd2)
              have HZD := Lib.hid (Nat.le_trans HZC.out kcd.size)
              obtain ⟨f0L, f1L, f2L, f3L⟩ : wc.frozen? ⟨lb, 0, none⟩ = false ∧ wc.frozen? ⟨lb, 1, none⟩ = false ∧ wc.frozen? ⟨lb, 2, none⟩ = false ∧ wc.frozen? ⟨lb, 3, none⟩ = false := ⟨blk_frozen hLb, blk_frozen hLb, blk_frozen hLb, blk_frozen hLb⟩
              have c0L : wc.cell? ⟨lb, 0, none⟩ = some aL := by unfold World.cell?; simp only [hLb]; rfl
              have c1L : wc.cell? ⟨lb, 1, none⟩ = some bL := by unfold World.cell?; simp only [hLb]; rfl
              have c2L : wc.cell? ⟨lb, 2, none⟩ = some cL := by unfold World.cell?; simp only [hLb]; rfl
              have c3L : wc.cell? ⟨lb, 3, none⟩ = some dL := by unfold World.cell?; simp only [hLb]; rfl
              obtain ⟨e0, e1, e2, e3⟩ := HEC.out
              have hneb : ¬ w4.heap.size = lb := HNB.out
              have hd0 : wd.cell? ⟨w4.heap.size, 0, none⟩ = some (.slice q.A q.n q.c) := by rw [hwd, World.cell?_setCell_other _ _ _ _ (fun h => hneb (congrArg Addr.block h).symm), World.cell?_setCell_other _ _ _ _ (fun h => hneb (congrArg Addr.block h).symm), World.cell?_setCell_other _ _ _ _ (fun h => hneb (congrArg Addr.block h).symm), World.cell?_setCell_other _ _ _ _ (fun h => hneb (congrArg Addr.block h).symm)]; exact e0
              have hd1 : wd.cell? ⟨w4.heap.size, 1, none⟩ = some (.int .i64 e.seq) := by rw [hwd, World.cell?_setCell_other _ _ _ _ (fun h => hneb (congrArg Addr.block h).symm), World.cell?_setCell_other _ _ _ _ (fun h => hneb (congrArg Addr.block h).symm), World.cell?_setCell_other _ _ _ _ (fun h => hneb (congrArg Addr.block h).symm), World.cell?_setCell_other _ _ _ _ (fun h => hneb (congrArg Addr.block h).symm)]; exact e1
              have hd2 : wd.cell? ⟨w4.heap.size, 2, none⟩ = some (.int .i64 e.kind) := by rw [hwd, World.cell?_setCell_other _ _ _ _ (fun h => hneb (congrArg Addr.block h).symm), World.cell?_setCell_other _ _ _ _ (fun h => hneb (congrArg Addr.block h).symm), World.cell?_setCell_other _ _ _ _ (fun h => hneb (congrArg Addr.block h).symm), World.cell?_setCell_other _ _ _ _ (fun h => hneb (congrArg Addr.block h).symm)]; exact e2
              have hd3 : wd.cell? ⟨w4.heap.size, 3, none⟩ = some (.slice q.B q.m q.d) := by rw [hwd, World.cell?_setCell_other _ _ _ _ (fun h => hneb (congrArg Addr.block h).symm), World.cell?_setCell_other _ _ _ _ (fun h => hneb (congrArg Addr.block h).symm), World.cell?_setCell_other _ _ _ _ (fun h => hneb (congrArg Addr.block h).symm), World.cell?_setCell_other _ _ _ _ (fun h => hneb (congrArg Addr.block h).symm)]; exact e3
              rw [hwd] at hd0 hd1 hd2 hd3
              have HFD := Lib.hid (HFE.out.u8b (HST.out.bytes HDD.out.kept))
              clear kcd u8d kcd2 hLb
              obtain ⟨fn, tmps, assign, body, hy, hRd⟩ := hY out e #[.agg (cellsE q e).toArray] T M wd (num - 1) HJD.out ⟨joinF f1 (LL.set i r) (some e), HOUT.out⟩ ⟨q, rfl, HFD.out.elt'⟩ (fun k h => ⟨((HTT.out k).1 h).1, Nat.lt_of_lt_of_le ((HTT.out k).1 h).2 HZD.out⟩) HMT.out (Nat.le_trans HX2.out.size HZD.out)
              gi_wp2
              rw [show (Value.agg #[.slice q.A q.n q.c, .int .i64 e.seq, .int .i64 e.kind, .slice q.B q.m q.d]) = .agg (cellsE q e).toArray from rfl]
              rw [← hwd, hy]
              clear hwd hd0 hd1 hd2 hd3
              refine ⟨fun h => (by simp [Fence.wide] at h), ?_⟩
              refine RoundIn.mono hRd ?_
              rintro ee W3 hE
              rcases hE with ⟨rfl, hJ3, hk3⟩ | ⟨rfl, hJ3, hk3⟩
              · have HK3 := Lib.hid (HKD.out.trans (hk3.mono fun k hk => .inr hk))
                have HD3 := Lib.hid (HDD.out.keptT HST.out (hk3.mono fun j hj => .inl ((HTT.out j).2 hj)))
                have HZ3 := Lib.hid (Nat.le_trans HZD.out hk3.size)
                have HJ3 := Lib.hid hJ3
                clear hJ3 hk3 hy hRd
                gi_wp2
                go_roundw
                case rel => exact ⟨LL.set i r, some e, out ++ [e], f1, rfl, HD3, HJ3, HK3, Lib.hid ⟨HOUT.out, HSM.out⟩, HZ3⟩
                case measure => rw [HD3.out.len_ HST.out, HD.out.len_ HST.out]; have := sum_set HIE.out; omega
              · have HJ3 := Lib.hid hJ3
                clear hJ3 hk3 hy hRd
                gi_wp2
                refine noGoto_back ?_
                refine bodyPost_ret (results_none rfl _ _ _) rfl ?_
                exact ⟨⟨_, rfl⟩, .inr ⟨_, T, M, ⟨joinF f1 (LL.set i r) (some e), HOUT.out⟩, HJ3.out⟩⟩
            | some y =>
              rw [show (some y : Option Ent).isSome = true from rfl]
              obtain ⟨aL, bL, cL, dL, hLb, hLy⟩ := HDC.out.lT
              obtain ⟨qy, ⟨rfl, rfl, rfl, rfl⟩, hfy⟩ := hLy y rfl
              have HFY := Lib.hid (hfy.u8b (HST.out.bytes HDC.out.kept)).rd
              have HFX := Lib.hid (HFE.out.u8b (HST.out.bytes HDC.out.kept)).rd
              have y0 : wc.cell? ⟨lb, 0, none⟩ = some (.slice qy.A qy.n qy.c) := by unfold World.cell?; simp only [hLb]; rfl
              have y1 : wc.cell? ⟨lb, 1, none⟩ = some (.int .i64 y.seq) := by unfold World.cell?; simp only [hLb]; rfl
              have y2 : wc.cell? ⟨lb, 2, none⟩ = some (.int .i64 y.kind) := by unfold World.cell?; simp only [hLb]; rfl
              have y3 : wc.cell? ⟨lb, 3, none⟩ = some (.slice qy.B qy.m qy.d) := by unfold World.cell?; simp only [hLb]; rfl
              obtain ⟨e0, e1, e2, e3⟩ := HEC.out
              rw [hwc, hwb] at y0 y1 y2 y3 e0 e1 e2 e3
              clear hLy hfy hLb
              gi_wp2
              rw [← hwb, ← hwc]
              clear hwb hwc f1 f2 y0 y1 y2 y3 e0 e1 e2 e3
              refine ⟨trivial, fun h => (by simp [Fence.wide] at h), ?_⟩
              refine (callsIn_wide.2 (compare_any _ _ y e _ HFY.out HFX.out)).mono ?_
              rintro ee w6 ⟨rfl, hw6⟩
              have HD6 := Lib.hid (HDC.out.ext hw6)
              have HJ6 := Lib.hid (hJ _ _ T _ M _ w6 HJC.out (Kept.of_ext hw6) (U8.of_ext hw6) (fun _ h => h) (fun _ h => .inl h) (fun _ h => h) (fun _ h => .inl h))
              have HK6 := Lib.hid (HKC.out.then_ hw6)
              have HZ6 := Lib.hid (Nat.le_trans HZC.out hw6.size)
              have HE6 : Hid (w6.cell? ⟨w4.heap.size, 0, none⟩ = some (.slice q.A q.n q.c) ∧ w6.cell? ⟨w4.heap.size, 1, none⟩ = some (.int .i64 e.seq) ∧ w6.cell? ⟨w4.heap.size, 2, none⟩ = some (.int .i64 e.kind) ∧ w6.cell? ⟨w4.heap.size, 3, none⟩ = some (.slice q.B q.m q.d)) := Lib.hid ⟨hw6.keeps _ _ _ HEC.out.1, hw6.keeps _ _ _ HEC.out.2.1, hw6.keeps _ _ _ HEC.out.2.2.1, hw6.keeps _ _ _ HEC.out.2.2.2⟩
              by_cases hcz : cmpE y e = 0
              · have hcb : (cmpE y e == 0) = true := by simp [hcz]
                have HOUT : Hid (out ++ joinF f1 (LL.set i r) (some y) = joinL LL0) := Lib.hid (by
                  rw [← HO.out.1, joinF_same (by rw [hLL]; exact HLS.out) HIE.out hcz])
                clear hcz
                gi_wp2
                go_roundw
                case rel => exact ⟨LL.set i r, some y, out, f1, rfl, HD6, HJ6, HK6, Lib.hid ⟨HOUT.out, HSM.out⟩, HZ6⟩
                case measure => rw [HD6.out.len_ HST.out, HD.out.len_ HST.out]; have := sum_set HIE.out; omega
              · have hcb : (cmpE y e == 0) = false := by simp [hcz]
                have HNC : Hid (∀ y', (some y : Option Ent) = some y' → cmpE y' e ≠ 0) := Lib.hid (fun y' h => by cases h; exact hcz)
                clear hcz
                have HOUT : Hid ((out ++ [e]) ++ joinF f1 (LL.set i r) (some e) = joinL LL0) := Lib.hid (by
                  rw [← HO.out.1, joinF_new (by rw [hLL]; exact HLS.out) HIE.out HNC.out]
                  simp)
                obtain ⟨wd, hwd⟩ : ∃ wd, wd = (((w6.setCell ⟨lb, 0, none⟩ (.slice q.A q.n q.c)).setCell ⟨lb, 1, none⟩ (.int .i64 e.seq)).setCell ⟨lb, 2, none⟩ (.int .i64 e.kind)).setCell ⟨lb, 3, none⟩ (.slice q.B q.m q.d) := ⟨_, rfl⟩
                have HDD := Lib.hid (show DyJ w2 W.heap.size g lb vs0 LL0 (LL.set i r) (some e) wd from by rw [hwd]; exact HD6.out.put HST.out q e HFE.out)
                obtain ⟨aL, bL, cL, dL, hLb, _⟩ := HD6.out.lT
                have kcd : Kept (fun j => ¬ M j) w6 wd := by rw [hwd]; exact ((((Kept.rfl_ _ w6).setCell (fun h => h HML.out) _).setCell (fun h => h HML.out) _).setCell (fun h => h HML.out) _).setCell (fun h => h HML.out) _
                have u8d : U8 w6 wd := fun j cs fr hj => by
                  by_cases hjl : j = lb
                  · subst hjl; rw [hLb] at hj; simp at hj
                  · rw [hwd, Below.heap_setCell _ _ _ _ (fun h => hjl h), Below.heap_setCell _ _ _ _ (fun h => hjl h), Below.heap_setCell _ _ _ _ (fun h => hjl h), Below.heap_setCell _ _ _ _ (fun h => hjl h)]; exact hj
                have kcd2 : Kept (fun j => j < W.heap.size ∧ ¬ S j) w6 wd := by rw [hwd]; exact ((((Kept.rfl_ _ w6).setCell (fun h => HLB.out h.1) _).setCell (fun h => HLB.out h.1) _).setCell (fun h => HLB.out h.1) _).setCell (fun h => HLB.out h.1) _
                have HJD := Lib.hid (hJ _ _ T _ M _ wd HJ6.out kcd u8d (fun _ h => h) (fun _ h => .inl h) (fun _ h => h) (fun _ h => .inl h))
                have HKD := Lib.hid (HK6.out.trans kcd2)
                have HZD := Lib.hid (Nat.le_trans HZ6.out kcd.size)
                obtain ⟨f0L, f1L, f2L, f3L⟩ : w6.frozen? ⟨lb, 0, none⟩ = false ∧ w6.frozen? ⟨lb, 1, none⟩ = false ∧ w6.frozen? ⟨lb, 2, none⟩ = false ∧ w6.frozen? ⟨lb, 3, none⟩ = false := ⟨blk_frozen hLb, blk_frozen hLb, blk_frozen hLb, blk_frozen hLb⟩
                have c0L : w6.cell? ⟨lb, 0, none⟩ = some aL := by unfold World.cell?; simp only [hLb]; rfl
                have c1L : w6.cell? ⟨lb, 1, none⟩ = some bL := by unfold World.cell?; simp only [hLb]; rfl
                have c2L : w6.cell? ⟨lb, 2, none⟩ = some cL := by unfold World.cell?; simp only [hLb]; rfl
                have c3L : w6.cell? ⟨lb, 3, none⟩ = some dL := by unfold World.cell?; simp only [hLb]; rfl
                obtain ⟨e0, e1, e2, e3⟩ := HE6.out
                have hneb : ¬ w4.heap.size = lb := HNB.out
                have hd0 : wd.cell? ⟨w4.heap.size, 0, none⟩ = some (.slice q.A q.n q.c) := by rw [hwd, World.cell?_setCell_other _ _ _ _ (fun h => hneb (congrArg Addr.block h).symm), World.cell?_setCell_other _ _ _ _ (fun h => hneb (congrArg Addr.block h).symm), World.cell?_setCell_other _ _ _ _ (fun h => hneb (congrArg Addr.block h).symm), World.cell?_setCell_other _ _ _ _ (fun h => hneb (congrArg Addr.block h).symm)]; exact e0
                have hd1 : wd.cell? ⟨w4.heap.size, 1, none⟩ = some (.int .i64 e.seq) := by rw [hwd, World.cell?_setCell_other _ _ _ _ (fun h => hneb (congrArg Addr.block h).symm), World.cell?_setCell_other _ _ _ _ (fun h => hneb (congrArg Addr.block h).symm), World.cell?_setCell_other _ _ _ _ (fun h => hneb (congrArg Addr.block h).symm), World.cell?_setCell_other _ _ _ _ (fun h => hneb (congrArg Addr.block h).symm)]; exact e1
                have hd2 : wd.cell? ⟨w4.heap.size, 2, none⟩ = some (.int .i64 e.kind) := by rw [hwd, World.cell?_setCell_other _ _ _ _ (fun h => hneb (congrArg Addr.block h).symm), World.cell?_setCell_other _ _ _ _ (fun h => hneb (congrArg Addr.block h).symm), World.cell?_setCell_other _ _ _ _ (fun h => hneb (congrArg Addr.block h).symm), World.cell?_setCell_other _ _ _ _ (fun h => hneb (congrArg Addr.block h).symm)]; exact e2
                have hd3 : wd.cell? ⟨w4.heap.size, 3, none⟩ = some (.slice q.B q.m q.d) := by rw [hwd, World.cell?_setCell_other _ _ _ _ (fun h => hneb (congrArg Addr.block h).symm), World.cell?_setCell_other _ _ _ _ (fun h => hneb (congrArg Addr.block h).symm), World.cell?_setCell_other _ _ _ _ (fun h => hneb (congrArg Addr.block h).symm), World.cell?_setCell_other _ _ _ _ (fun h => hneb (congrArg Addr.block h).symm)]; exact e3
                rw [hwd] at hd0 hd1 hd2 hd3
                have HFD := Lib.hid (HFE.out.u8b (HST.out.bytes HDD.out.kept))
                clear kcd u8d kcd2 hLb
                obtain ⟨fn, tmps, assign, body, hy, hRd⟩ := hY out e #[.agg (cellsE q e).toArray] T M wd (num - 1) HJD.out ⟨joinF f1 (LL.set i r) (some e), HOUT.out⟩ ⟨q, rfl, HFD.out.elt'⟩ (fun k h => ⟨((HTT.out k).1 h).1, Nat.lt_of_lt_of_le ((HTT.out k).1 h).2 HZD.out⟩) HMT.out (Nat.le_trans HX2.out.size HZD.out)
                gi_wp2
                rw [show (Value.agg #[.slice q.A q.n q.c, .int .i64 e.seq, .int .i64 e.kind, .slice q.B q.m q.d]) = .agg (cellsE q e).toArray from rfl]
                rw [← hwd, hy]
                clear hwd hd0 hd1 hd2 hd3
                refine ⟨fun h => (by simp [Fence.wide] at h), ?_⟩
                refine RoundIn.mono hRd ?_
                rintro ee W3 hE
                rcases hE with ⟨rfl, hJ3, hk3⟩ | ⟨rfl, hJ3, hk3⟩
                · have HK3 := Lib.hid (HKD.out.trans (hk3.mono fun k hk => .inr hk))
                  have HD3 := Lib.hid (HDD.out.keptT HST.out (hk3.mono fun j hj => .inl ((HTT.out j).2 hj)))
                  have HZ3 := Lib.hid (Nat.le_trans HZD.out hk3.size)
                  have HJ3 := Lib.hid hJ3
                  clear hJ3 hk3 hy hRd
                  gi_wp2
                  go_roundw
                  case rel => exact ⟨LL.set i r, some e, out ++ [e], f1, rfl, HD3, HJ3, HK3, Lib.hid ⟨HOUT.out, HSM.out⟩, HZ3⟩
                  case measure => rw [HD3.out.len_ HST.out, HD.out.len_ HST.out]; have := sum_set HIE.out; omega
                · have HJ3 := Lib.hid hJ3
                  clear hJ3 hk3 hy hRd
                  gi_wp2
                  refine noGoto_back ?_
                  refine bodyPost_ret (results_none rfl _ _ _) rfl ?_
                  exact ⟨⟨_, rfl⟩, .inr ⟨_, T, M, ⟨joinF f1 (LL.set i r) (some e), HOUT.out⟩, HJ3.out⟩⟩

          | succ cc =>
            obtain ⟨wc, hwc⟩ : ∃ wc, wc = wb.setCell ⟨g, i, none⟩ (.slice (some ⟨b, p * 4 + 4, none⟩) r.length (cc + 1)) := ⟨_, rfl⟩
            have HDC := Lib.hid (show DyJ w2 W.heap.size g lb vs0 LL0 (LL.set i r) last wc from by rw [hwc]; exact HDB.out.take HST.out HIE.out hil hiv HDR.out hpl hv0 _ r.length (cc + 1) (rfl) (fun _ => by congr 2; rw [Nat.add_mul]) (by omega))
            have kbc : Kept (fun j => ¬ M j) wb wc := by rw [hwc]; exact (Kept.rfl_ _ wb).setCell (fun h => h HMG.out) _
            have u8c : U8 wb wc := by rw [hwc]; exact U8.set hg2 (by decide)
            have kbc2 : Kept (fun j => j < W.heap.size ∧ ¬ S j) wb wc := by rw [hwc]; exact (Kept.rfl_ _ wb).setCell (fun h => HGB.out h.1) _
            have HJC := Lib.hid (hJ _ _ T _ M _ wc (hJ _ _ T _ M _ wb HJ.out (Kept.of_ext (hw4.trans xb)) (U8.of_ext (hw4.trans xb)) (fun _ h => h) (fun _ h => .inl h) (fun _ h => h) (fun _ h => .inl h)) kbc u8c (fun _ h => h) (fun _ h => .inl h) (fun _ h => h) (fun _ h => .inl h))
            have HKC := Lib.hid ((HK.out.then_ (hw4.trans xb)).trans kbc2)
            have HZC := Lib.hid (Nat.le_trans HZ.out (Nat.le_trans (hw4.trans xb).size kbc.size))
            have HEC : Hid (wc.cell? ⟨w4.heap.size, 0, none⟩ = some (.slice q.A q.n q.c) ∧ wc.cell? ⟨w4.heap.size, 1, none⟩ = some (.int .i64 e.seq) ∧ wc.cell? ⟨w4.heap.size, 2, none⟩ = some (.int .i64 e.kind) ∧ wc.cell? ⟨w4.heap.size, 3, none⟩ = some (.slice q.B q.m q.d)) := Lib.hid (by
              obtain ⟨r0, r1, r2, r3, _⟩ := box4 hbx (Ext.rfl_ wb)
              have hne : ∀ o, (⟨g, i, none⟩ : Addr) ≠ ⟨w4.heap.size, o, none⟩ := fun o h => HNG.out (congrArg Addr.block h).symm
              rw [hwc, World.cell?_setCell_other _ _ _ _ (hne 0), World.cell?_setCell_other _ _ _ _ (hne 1), World.cell?_setCell_other _ _ _ _ (hne 2), World.cell?_setCell_other _ _ _ _ (hne 3)]
              exact ⟨r0, r1, r2, r3⟩)
            clear kbc u8c kbc2
            cases last with
            | none =>
              have HNC : Hid (∀ y, (none : Option Ent) = some y → cmpE y e ≠ 0) := Lib.hid (fun y h => by cases h)
              rw [show (none : Option Ent).isSome = false from rfl]
              gi_wp2
              rw [← hwb, ← hwc]
              clear hwb hwc f1 f2
              refine ⟨trivial, ?_⟩
              have HOUT : Hid ((out ++ [e]) ++ joinF f1 (LL.set i r) (some e) = joinL LL0) := Lib.hid (by
                rw [← HO.out.1, joinF_new (by rw [hLL]; exact HLS.out) HIE.out HNC.out]
                simp)
              obtain ⟨wd, hwd⟩ : ∃ wd, wd = (((wc.setCell ⟨lb, 0, none⟩ (.slice q.A q.n q.c)).setCell ⟨lb, 1, none⟩ (.int .i64 e.seq)).setCell ⟨lb, 2, none⟩ (.int .i64 e.kind)).setCell ⟨lb, 3, none⟩ (.slice q.B q.m q.d) := ⟨_, rfl⟩
              have HDD := Lib.hid (show DyJ w2 W.heap.size g lb vs0 LL0 (LL.set i r) (some e) wd from by rw [hwd]; exact HDC.out.put HST.out q e HFE.out)
              obtain ⟨aL, bL, cL, dL, hLb, _⟩ := HDC.out.lT
              have kcd : Kept (fun j => ¬ M j) wc wd := by rw [hwd]; exact ((((Kept.rfl_ _ wc).setCell (fun h => h HML.out) _).setCell (fun h => h HML.out) _).setCell (fun h => h HML.out) _).setCell (fun h => h HML.out) _
              have u8d : U8 wc wd := fun j cs fr hj => by
                by_cases hjl : j = lb
                · subst hjl; rw [hLb] at hj; simp at hj
                · rw [hwd, Below.heap_setCell _ _ _ _ (fun h => hjl h), Below.heap_setCell _ _ _ _ (fun h => hjl h), Below.heap_setCell _ _ _ _ (fun h => hjl h), Below.heap_setCell _ _ _ _ (fun h => hjl h)]; exact hj
              have kcd2 : Kept (fun j => j < W.heap.size ∧ ¬ S j) wc wd := by rw [hwd]; exact ((((Kept.rfl_ _ wc).setCell (fun h => HLB.out h.1) _).setCell (fun h => HLB.out h.1) _).setCell (fun h => HLB.out h.1) _).setCell (fun h => HLB.out h.1) _
              have HJD := Lib.hid (hJ _ _ T _ M _ wd HJC.out kcd u8d (fun _ h => h) (fun _ h => .inl h) (fun _ h => h) (fun _ h => .inl h))
              have HKD := Lib.hid (HKC.out.trans kcd2)
              have HZD := Lib.hid (Nat.le_trans HZC.out kcd.size)
              obtain ⟨f0L, f1L, f2L, f3L⟩ : wc.frozen? ⟨lb, 0, none⟩ = false ∧ wc.frozen? ⟨lb, 1, none⟩ = false ∧ wc.frozen? ⟨lb, 2, none⟩ = false ∧ wc.frozen? ⟨lb, 3, none⟩ = false := ⟨blk_frozen hLb, blk_frozen hLb, blk_frozen hLb, blk_frozen hLb⟩
              have c0L : wc.cell? ⟨lb, 0, none⟩ = some aL := by unfold World.cell?; simp only [hLb]; rfl
              have c1L : wc.cell? ⟨lb, 1, none⟩ = some bL := by unfold World.cell?; simp only [hLb]; rfl
              have c2L : wc.cell? ⟨lb, 2, none⟩ = some cL := by unfold World.cell?; simp only [hLb]; rfl
              have c3L : wc.cell? ⟨lb, 3, none⟩ = some dL := by unfold World.cell?; simp only [hLb]; rfl
              obtain ⟨e0, e1, e2, e3⟩ := HEC.out
              have hneb : ¬ w4.heap.size = lb := HNB.out
              have hd0 : wd.cell? ⟨w4.heap.size, 0, none⟩ = some (.slice q.A q.n q.c) := by rw [hwd, World.cell?_setCell_other _ _ _ _ (fun h => hneb (congrArg Addr.block h).symm), World.cell?_setCell_other _ _ _ _ (fun h => hneb (congrArg Addr.block h).symm), World.cell?_setCell_other _ _ _ _ (fun h => hneb (congrArg Addr.block h).symm), World.cell?_setCell_other _ _ _ _ (fun h => hneb (congrArg Addr.block h).symm)]; exact e0
              have hd1 : wd.cell? ⟨w4.heap.size, 1, none⟩ = some (.int .i64 e.seq) := by rw [hwd, World.cell?_setCell_other _ _ _ _ (fun h => hneb (congrArg Addr.block h).symm), World.cell?_setCell_other _ _ _ _ (fun h => hneb (congrArg Addr.block h).symm), World.cell?_setCell_other _ _ _ _ (fun h => hneb (congrArg Addr.block h).symm), World.cell?_setCell_other _ _ _ _ (fun h => hneb (congrArg Addr.block h).symm)]; exact e1
              have hd2 : wd.cell? ⟨w4.heap.size, 2, none⟩ = some (.int .i64 e.kind) := by rw [hwd, World.cell?_setCell_other _ _ _ _ (fun h => hneb (congrArg Addr.block h).symm), World.cell?_setCell_other _ _ _ _ (fun h => hneb (congrArg Addr.block h).symm), World.cell?_setCell_other _ _ _ _ (fun h => hneb (congrArg Addr.block h).symm), World.cell?_setCell_other _ _ _ _ (fun h => hneb (congrArg Addr.block h).symm)]; exact e2
              have hd3 : wd.cell? ⟨w4.heap.size, 3, none⟩ = some (.slice q.B q.m q.d) := by rw [hwd, World.cell?_setCell_other _ _ _ _ (fun h => hneb (congrArg Addr.block h).symm), World.cell?_setCell_other _ _ _ _ (fun h => hneb (congrArg Addr.block h).symm), World.cell?_setCell_other _ _ _ _ (fun h => hneb (congrArg Addr.block h).symm), World.cell?_setCell_other _ _ _ _ (fun h => hneb (congrArg Addr.block h).symm)]; exact e3
              rw [hwd] at hd0 hd1 hd2 hd3
              have HFD := Lib.hid (HFE.out.u8b (HST.out.bytes HDD.out.kept))
              clear kcd u8d kcd2 hLb
              obtain ⟨fn, tmps, assign, body, hy, hRd⟩ := hY out e #[.agg (cellsE q e).toArray] T M wd (num - 1) HJD.out ⟨joinF f1 (LL.set i r) (some e), HOUT.out⟩ ⟨q, rfl, HFD.out.elt'⟩ (fun k h => ⟨((HTT.out k).1 h).1, Nat.lt_of_lt_of_le ((HTT.out k).1 h).2 HZD.out⟩) HMT.out (Nat.le_trans HX2.out.size HZD.out)
              gi_wp2
              rw [show (Value.agg #[.slice q.A q.n q.c, .int .i64 e.seq, .int .i64 e.kind, .slice q.B q.m q.d]) = .agg (cellsE q e).toArray from rfl]
              rw [← hwd, hy]
              clear hwd hd0 hd1 hd2 hd3
              refine ⟨fun h => (by simp [Fence.wide] at h), ?_⟩
              refine RoundIn.mono hRd ?_
              rintro ee W3 hE
              rcases hE with ⟨rfl, hJ3, hk3⟩ | ⟨rfl, hJ3, hk3⟩
              · have HK3 := Lib.hid (HKD.out.trans (hk3.mono fun k hk => .inr hk))
                have HD3 := Lib.hid (HDD.out.keptT HST.out (hk3.mono fun j hj => .inl ((HTT.out j).2 hj)))
                have HZ3 := Lib.hid (Nat.le_trans HZD.out hk3.size)
                have HJ3 := Lib.hid hJ3
                clear hJ3 hk3 hy hRd
                gi_wp2
                go_roundw
                case rel => exact ⟨LL.set i r, some e, out ++ [e], f1, rfl, HD3, HJ3, HK3, Lib.hid ⟨HOUT.out, HSM.out⟩, HZ3⟩
                case measure => rw [HD3.out.len_ HST.out, HD.out.len_ HST.out]; have := sum_set HIE.out; omega
              · have HJ3 := Lib.hid hJ3
                clear hJ3 hk3 hy hRd
                gi_wp2
                refine noGoto_back ?_
                refine bodyPost_ret (results_none rfl _ _ _) rfl ?_
                exact ⟨⟨_, rfl⟩, .inr ⟨_, T, M, ⟨joinF f1 (LL.set i r) (some e), HOUT.out⟩, HJ3.out⟩⟩
            | some y =>
              rw [show (some y : Option Ent).isSome = true from rfl]
              obtain ⟨aL, bL, cL, dL, hLb, hLy⟩ := HDC.out.lT
              obtain ⟨qy, ⟨rfl, rfl, rfl, rfl⟩, hfy⟩ := hLy y rfl
              have HFY := Lib.hid (hfy.u8b (HST.out.bytes HDC.out.kept)).rd
              have HFX := Lib.hid (HFE.out.u8b (HST.out.bytes HDC.out.kept)).rd
              have y0 : wc.cell? ⟨lb, 0, none⟩ = some (.slice qy.A qy.n qy.c) := by unfold World.cell?; simp only [hLb]; rfl
              have y1 : wc.cell? ⟨lb, 1, none⟩ = some (.int .i64 y.seq) := by unfold World.cell?; simp only [hLb]; rfl
              have y2 : wc.cell? ⟨lb, 2, none⟩ = some (.int .i64 y.kind) := by unfold World.cell?; simp only [hLb]; rfl
              have y3 : wc.cell? ⟨lb, 3, none⟩ = some (.slice qy.B qy.m qy.d) := by unfold World.cell?; simp only [hLb]; rfl
              obtain ⟨e0, e1, e2, e3⟩ := HEC.out
              rw [hwc, hwb] at y0 y1 y2 y3 e0 e1 e2 e3
              clear hLy hfy hLb
              gi_wp2
              rw [← hwb, ← hwc]
              clear hwb hwc f1 f2 y0 y1 y2 y3 e0 e1 e2 e3
              refine ⟨trivial, fun h => (by simp [Fence.wide] at h), ?_⟩
              refine (callsIn_wide.2 (compare_any _ _ y e _ HFY.out HFX.out)).mono ?_
              rintro ee w6 ⟨rfl, hw6⟩
              have HD6 := Lib.hid (HDC.out.ext hw6)
              have HJ6 := Lib.hid (hJ _ _ T _ M _ w6 HJC.out (Kept.of_ext hw6) (U8.of_ext hw6) (fun _ h => h) (fun _ h => .inl h) (fun _ h => h) (fun _ h => .inl h))
              have HK6 := Lib.hid (HKC.out.then_ hw6)
              have HZ6 := Lib.hid (Nat.le_trans HZC.out hw6.size)
              have HE6 : Hid (w6.cell? ⟨w4.heap.size, 0, none⟩ = some (.slice q.A q.n q.c) ∧ w6.cell? ⟨w4.heap.size, 1, none⟩ = some (.int .i64 e.seq) ∧ w6.cell? ⟨w4.heap.size, 2, none⟩ = some (.int .i64 e.kind) ∧ w6.cell? ⟨w4.heap.size, 3, none⟩ = some (.slice q.B q.m q.d)) := Lib.hid ⟨hw6.keeps _ _ _ HEC.out.1, hw6.keeps _ _ _ HEC.out.2.1, hw6.keeps _ _ _ HEC.out.2.2.1, hw6.keeps _ _ _ HEC.out.2.2.2⟩
              by_cases hcz : cmpE y e = 0
              · have hcb : (cmpE y e == 0) = true := by simp [hcz]
                have HOUT : Hid (out ++ joinF f1 (LL.set i r) (some y) = joinL LL0) := Lib.hid (by
                  rw [← HO.out.1, joinF_same (by rw [hLL]; exact HLS.out) HIE.out hcz])
                clear hcz
                gi_wp2
                go_roundw
                case rel => exact ⟨LL.set i r, some y, out, f1, rfl, HD6, HJ6, HK6, Lib.hid ⟨HOUT.out, HSM.out⟩, HZ6⟩
                case measure => rw [HD6.out.len_ HST.out, HD.out.len_ HST.out]; have := sum_set HIE.out; omega
              · have hcb : (cmpE y e == 0) = false := by simp [hcz]
                have HNC : Hid (∀ y', (some y : Option Ent) = some y' → cmpE y' e ≠ 0) := Lib.hid (fun y' h => by cases h; exact hcz)
                clear hcz
                have HOUT : Hid ((out ++ [e]) ++ joinF f1 (LL.set i r) (some e) = joinL LL0) := Lib.hid (by
                  rw [← HO.out.1, joinF_new (by rw [hLL]; exact HLS.out) HIE.out HNC.out]
                  simp)
                obtain ⟨wd, hwd⟩ : ∃ wd, wd = (((w6.setCell ⟨lb, 0, none⟩ (.slice q.A q.n q.c)).setCell ⟨lb, 1, none⟩ (.int .i64 e.seq)).setCell ⟨lb, 2, none⟩ (.int .i64 e.kind)).setCell ⟨lb, 3, none⟩ (.slice q.B q.m q.d) := ⟨_, rfl⟩
                have HDD := Lib.hid (show DyJ w2 W.heap.size g lb vs0 LL0 (LL.set i r) (some e) wd from by rw [hwd]; exact HD6.out.put HST.out q e HFE.out)
                obtain ⟨aL, bL, cL, dL, hLb, _⟩ := HD6.out.lT
                have kcd : Kept (fun j => ¬ M j) w6 wd := by rw [hwd]; exact ((((Kept.rfl_ _ w6).setCell (fun h => h HML.out) _).setCell (fun h => h HML.out) _).setCell (fun h => h HML.out) _).setCell (fun h => h HML.out) _
                have u8d : U8 w6 wd := fun j cs fr hj => by
                  by_cases hjl : j = lb
                  · subst hjl; rw [hLb] at hj; simp at hj
                  · rw [hwd, Below.heap_setCell _ _ _ _ (fun h => hjl h), Below.heap_setCell _ _ _ _ (fun h => hjl h), Below.heap_setCell _ _ _ _ (fun h => hjl h), Below.heap_setCell _ _ _ _ (fun h => hjl h)]; exact hj
                have kcd2 : Kept (fun j => j < W.heap.size ∧ ¬ S j) w6 wd := by rw [hwd]; exact ((((Kept.rfl_ _ w6).setCell (fun h => HLB.out h.1) _).setCell (fun h => HLB.out h.1) _).setCell (fun h => HLB.out h.1) _).setCell (fun h => HLB.out h.1) _
                have HJD := Lib.hid (hJ _ _ T _ M _ wd HJ6.out kcd u8d (fun _ h => h) (fun _ h => .inl h) (fun _ h => h) (fun _ h => .inl h))
                have HKD := Lib.hid (HK6.out.trans kcd2)
                have HZD := Lib.hid (Nat.le_trans HZ6.out kcd.size)
                obtain ⟨f0L, f1L, f2L, f3L⟩ : w6.frozen? ⟨lb, 0, none⟩ = false ∧ w6.frozen? ⟨lb, 1, none⟩ = false ∧ w6.frozen? ⟨lb, 2, none⟩ = false ∧ w6.frozen? ⟨lb, 3, none⟩ = false := ⟨blk_frozen hLb, blk_frozen hLb, blk_frozen hLb, blk_frozen hLb⟩
                have c0L : w6.cell? ⟨lb, 0, none⟩ = some aL := by unfold World.cell?; simp only [hLb]; rfl
                have c1L : w6.cell? ⟨lb, 1, none⟩ = some bL := by unfold World.cell?; simp only [hLb]; rfl
                have c2L : w6.cell? ⟨lb, 2, none⟩ = some cL := by unfold World.cell?; simp only [hLb]; rfl
                have c3L : w6.cell? ⟨lb, 3, none⟩ = some dL := by unfold World.cell?; simp only [hLb]; rfl
                obtain ⟨e0, e1, e2, e3⟩ := HE6.out
                have hneb : ¬ w4.heap.size = lb := HNB.out
                have hd0 : wd.cell? ⟨w4.heap.size, 0, none⟩ = some (.slice q.A q.n q.c) := by rw [hwd, World.cell?_setCell_other _ _ _ _ (fun h => hneb (congrArg Addr.block h).symm), World.cell?_setCell_other _ _ _ _ (fun h => hneb (congrArg Addr.block h).symm), World.cell?_setCell_other _ _ _ _ (fun h => hneb (congrArg Addr.block h).symm), World.cell?_setCell_other _ _ _ _ (fun h => hneb (congrArg Addr.block h).symm)]; exact e0
                have hd1 : wd.cell? ⟨w4.heap.size, 1, none⟩ = some (.int .i64 e.seq) := by rw [hwd, World.cell?_setCell_other _ _ _ _ (fun h => hneb (congrArg Addr.block h).symm), World.cell?_setCell_other _ _ _ _ (fun h => hneb (congrArg Addr.block h).symm), World.cell?_setCell_other _ _ _ _ (fun h => hneb (congrArg Addr.block h).symm), World.cell?_setCell_other _ _ _ _ (fun h => hneb (congrArg Addr.block h).symm)]; exact e1
                have hd2 : wd.cell? ⟨w4.heap.size, 2, none⟩ = some (.int .i64 e.kind) := by rw [hwd, World.cell?_setCell_other _ _ _ _ (fun h => hneb (congrArg Addr.block h).symm), World.cell?_setCell_other _ _ _ _ (fun h => hneb (congrArg Addr.block h).symm), World.cell?_setCell_other _ _ _ _ (fun h => hneb (congrArg Addr.block h).symm), World.cell?_setCell_other _ _ _ _ (fun h => hneb (congrArg Addr.block h).symm)]; exact e2
                have hd3 : wd.cell? ⟨w4.heap.size, 3, none⟩ = some (.slice q.B q.m q.d) := by rw [hwd, World.cell?_setCell_other _ _ _ _ (fun h => hneb (congrArg Addr.block h).symm), World.cell?_setCell_other _ _ _ _ (fun h => hneb (congrArg Addr.block h).symm), World.cell?_setCell_other _ _ _ _ (fun h => hneb (congrArg Addr.block h).symm), World.cell?_setCell_other _ _ _ _ (fun h => hneb (congrArg Addr.block h).symm)]; exact e3
                rw [hwd] at hd0 hd1 hd2 hd3
                have HFD := Lib.hid (HFE.out.u8b (HST.out.bytes HDD.out.kept))
                clear kcd u8d kcd2 hLb
                obtain ⟨fn, tmps, assign, body, hy, hRd⟩ := hY out e #[.agg (cellsE q e).toArray] T M wd (num - 1) HJD.out ⟨joinF f1 (LL.set i r) (some e), HOUT.out⟩ ⟨q, rfl, HFD.out.elt'⟩ (fun k h => ⟨((HTT.out k).1 h).1, Nat.lt_of_lt_of_le ((HTT.out k).1 h).2 HZD.out⟩) HMT.out (Nat.le_trans HX2.out.size HZD.out)
                gi_wp2
                rw [show (Value.agg #[.slice q.A q.n q.c, .int .i64 e.seq, .int .i64 e.kind, .slice q.B q.m q.d]) = .agg (cellsE q e).toArray from rfl]
                rw [← hwd, hy]
                clear hwd hd0 hd1 hd2 hd3
                refine ⟨fun h => (by simp [Fence.wide] at h), ?_⟩
                refine RoundIn.mono hRd ?_
                rintro ee W3 hE
                rcases hE with ⟨rfl, hJ3, hk3⟩ | ⟨rfl, hJ3, hk3⟩
                · have HK3 := Lib.hid (HKD.out.trans (hk3.mono fun k hk => .inr hk))
                  have HD3 := Lib.hid (HDD.out.keptT HST.out (hk3.mono fun j hj => .inl ((HTT.out j).2 hj)))
                  have HZ3 := Lib.hid (Nat.le_trans HZD.out hk3.size)
                  have HJ3 := Lib.hid hJ3
                  clear hJ3 hk3 hy hRd
                  gi_wp2
                  go_roundw
                  case rel => exact ⟨LL.set i r, some e, out ++ [e], f1, rfl, HD3, HJ3, HK3, Lib.hid ⟨HOUT.out, HSM.out⟩, HZ3⟩
                  case measure => rw [HD3.out.len_ HST.out, HD.out.len_ HST.out]; have := sum_set HIE.out; omega
                · have HJ3 := Lib.hid hJ3
                  clear hJ3 hk3 hy hRd
                  gi_wp2
                  refine noGoto_back ?_
                  refine bodyPost_ret (results_none rfl _ _ _) rfl ?_
                  exact ⟨⟨_, rfl⟩, .inr ⟨_, T, M, ⟨joinF f1 (LL.set i r) (some e), HOUT.out⟩, HJ3.out⟩⟩


end Go.Proofs.Ytmmoopioiheleaa
