/- Iterators of entries, as merge has them: what is collected of one; merge.Clip. Conditions: the inner iterator's contract. -/
import Derived.Test.YtmmoopioiheleaaMgC
namespace Go.Proofs.Ytmmoopioiheleaa
set_option linter.unusedSimpArgs false
set_option linter.unusedVariables false
open Go.RowKit Go.Shelf
attribute [local go_sem] Oper.semAt_some

/-- From the world w on the function value goes over es. -/
def Iter (gf : Nat) (lb : Array Value) (es : List Ent) (w : World) : Prop :=
  (∀ args w, (callFunc gf args).run Try.prog w = .ok (.enter gf args) w) ∧ ∀ (W : World), Ext w W → ∀ (S : Nat → Prop) (W' : World), (∀ k, S k → W.heap.size ≤ k) → Ext W W' → SeqM Try.prog gf lb (OkM W.heap.size) S es W'
theorem Iter.ext {gf : Nat} {lb : Array Value} {es : List Ent} {w w' : World} (h : Iter gf lb es w) (e : Ext w w') : Iter gf lb es w' := ⟨h.1, fun W hW => h.2 W (e.trans hW)⟩
theorem of_iter (A : Option Addr) (n c g : Nat) (xs : List Ent) (w00 w0 : World) (hl : RdL w00 A n xs) (hnc : n ≤ c) (h0 : Ext w00 w0) (hg : w0.cell? ⟨g, 0, none⟩ = some (.slice A n c)) : Iter 22 #[.pointer (some ⟨g, 0, none⟩)] xs w0 :=
  ⟨enters_of Try.func22 (by kernel_rfl) rfl, fun W hW S W' hS hW' =>
    of1_seq A n c g W.heap.size xs S w00 W' hl hnc ((h0.trans hW).trans hW') (fun k hk => Nat.le_trans (h0.trans hW).size (hS k hk)) (h0.trans hW).size ((hW.trans hW').keeps' hg) (fun h => by
      have h1 := hS g h
      have h2 := cell_lt (hW.keeps' hg)
      omega)⟩
theorem collect_it {gf : Nat} {lb : Array Value} {es : List Ent} {w w0 : World} (h : Iter gf lb es w0) (e : Ext w0 w) (hes : es.length ≤ 1000000) :
    Calls Try.prog 20 #[.func (.func gf) #[] lb] w fun e w' => ∃ v, e = .returned v ∧ OwnF w' w.heap.size v es ∧ Ext w w' :=
  collect_any gf lb es w h.1 (fun S W hS hW => h.2 w e S W hS hW) hes

/-- The element at k of a row of the call's own. -/
theorem OwnF.at_ {w : World} {base : Nat} {v : Value} {xs : List Ent} (h : OwnF w base v xs) {k : Nat} (hk : k < xs.length) : ∃ (g c : Nat) (q : Hdr), v = .slice (some ⟨g, 0, none⟩) xs.length c ∧ xs.length ≤ c ∧ base ≤ g ∧ g < w.heap.size ∧
    (w.cell? ⟨g, k * 4, none⟩ = some (.slice q.A q.n q.c) ∧ w.cell? ⟨g, k * 4 + 1, none⟩ = some (.int .i64 xs[k].seq) ∧ w.cell? ⟨g, k * 4 + 2, none⟩ = some (.int .i64 xs[k].kind) ∧ w.cell? ⟨g, k * 4 + 3, none⟩ = some (.slice q.B q.m q.d)) ∧ FrE w base (.agg (cellsE q xs[k]).toArray) xs[k] := by
  obtain ⟨hs, hl, ho, hr⟩ := h
  have hlt := ho.lt
  rcases ho.2 with ⟨rfl, h0⟩ | ⟨g, cap, cur, rfl, hb, hg, hle, _⟩
  · omega
  · have hk' : k < hs.length := by omega
    have hc : ∀ j, j < 4 → w.cell? ⟨g, k * 4 + j, none⟩ = (cellsE hs[k] xs[k])[j]? := fun j hj => by
      have g0 := rowE_get hl k hk j hj
      rw [World.ownsRow.cellAt ho (k * 4 + j) (by omega), g0]
    exact ⟨g, cap, hs[k], rfl, hle, hb, (hlt g rfl).2, ⟨hc 0 (by omega), hc 1 (by omega), hc 2 (by omega), hc 3 (by omega)⟩, hr k hk' hk⟩
theorem OwnF.keptHi {w w' : World} {base : Nat} {v : Value} {xs : List Ent} (h : OwnF w base v xs) (k : Kept (fun j => base ≤ j ∧ j < w.heap.size) w w') : OwnF w' base v xs :=
  h.kxB fun j cs t fr hb hj => (k.block j (Array.getElem?_eq_some_iff.1 hj).1 ⟨hb, (Array.getElem?_eq_some_iff.1 hj).1⟩).trans hj

theorem filter_takeE {p : Ent → Bool} {xs : List Ent} {k : Nat} (h : k < xs.length) : (xs.take (k + 1)).filter p = (xs.take k).filter p ++ (if p xs[k] = true then [xs[k]] else []) := by
  rw [List.take_succ_eq_append_getElem h, List.filter_append]
  simp only [List.filter_cons, List.filter_nil]

/-- What merge.Clip lets through. -/
def clpP (f t : Bs) (en : Bool) (x : Ent) : Bool := decide (0 ≤ cmpK x.key f) && (!en || decide (cmpK x.key t < 0))

theorem boxes4 (w : World) (a b c d : Value) (ta tb tc td : TypeId) : ((((w.alloc (.cells #[a] ta)).alloc (.cells #[b] tb)).alloc (.cells #[c] tc)).alloc (.cells #[d] td)).cell? ⟨w.heap.size, 0, none⟩ = some a ∧
    ((((w.alloc (.cells #[a] ta)).alloc (.cells #[b] tb)).alloc (.cells #[c] tc)).alloc (.cells #[d] td)).cell? ⟨w.heap.size + 1, 0, none⟩ = some b ∧
    ((((w.alloc (.cells #[a] ta)).alloc (.cells #[b] tb)).alloc (.cells #[c] tc)).alloc (.cells #[d] td)).cell? ⟨w.heap.size + 2, 0, none⟩ = some c ∧
    ((((w.alloc (.cells #[a] ta)).alloc (.cells #[b] tb)).alloc (.cells #[c] tc)).alloc (.cells #[d] td)).cell? ⟨w.heap.size + 3, 0, none⟩ = some d := by
  obtain ⟨W1, h1⟩ : ∃ W1, W1 = w.alloc (.cells #[a] ta) := ⟨_, rfl⟩
  obtain ⟨W2, h2⟩ : ∃ W2, W2 = W1.alloc (.cells #[b] tb) := ⟨_, rfl⟩
  obtain ⟨W3, h3⟩ : ∃ W3, W3 = W2.alloc (.cells #[c] tc) := ⟨_, rfl⟩
  obtain ⟨W4, h4⟩ : ∃ W4, W4 = W3.alloc (.cells #[d] td) := ⟨_, rfl⟩
  have z1 : W1.heap.size = w.heap.size + 1 := by rw [h1, World.size_alloc]
  have z2 : W2.heap.size = w.heap.size + 2 := by rw [h2, World.size_alloc, z1]
  have z3 : W3.heap.size = w.heap.size + 3 := by rw [h3, World.size_alloc, z2]
  have q1 := (cnew w a ta).1
  have q2 := (cnew W1 b tb).1
  have q3 := (cnew W2 c tc).1
  have q4 := (cnew W3 d td).1
  rw [← h1] at q1
  rw [← h2, z1] at q2
  rw [← h3, z2] at q3
  rw [← h4, z3] at q4
  have x3 : Ext W3 W4 := by rw [h4]; exact Ext.alloc (Ext.rfl_ _) _
  have x2 : Ext W2 W4 := Ext.trans (by rw [h3]; exact Ext.alloc (Ext.rfl_ _) _) x3
  have x1 : Ext W1 W4 := Ext.trans (by rw [h2]; exact Ext.alloc (Ext.rfl_ _) _) x2
  rw [← h1, ← h2, ← h3, ← h4]
  exact ⟨x1.keeps _ _ _ q1, x2.keeps _ _ _ q2, x3.keeps _ _ _ q3, q4⟩
theorem clip_any (gf : Nat) (lb : Array Value) (A B : Option Addr) (n c m d : Nat) (en : Bool) (w : World) :
    Calls Try.prog 8 #[.func (.func gf) #[] lb, .slice A n c, .slice B m d, .bool en] w fun e w' => e = .returned (.func (.func 19) #[] #[.pointer (some ⟨w.heap.size, 0, none⟩), .pointer (some ⟨w.heap.size + 1, 0, none⟩), .pointer (some ⟨w.heap.size + 3, 0, none⟩), .pointer (some ⟨w.heap.size + 2, 0, none⟩)]) ∧
      (w'.cell? ⟨w.heap.size, 0, none⟩ = some (.func (.func gf) #[] lb) ∧ w'.cell? ⟨w.heap.size + 1, 0, none⟩ = some (.slice A n c) ∧ w'.cell? ⟨w.heap.size + 3, 0, none⟩ = some (.bool en) ∧ w'.cell? ⟨w.heap.size + 2, 0, none⟩ = some (.slice B m d)) ∧ Ext w w' := by
  go_enter Try.func8, Try.ntmps8
  go_wp2
  go_ret
  refine ⟨rfl, ?_, (by with_reducible (repeat (first | exact Ext.rfl_ _ | assumption | refine Ext.drew ?_ | refine Ext.drewN ?_ _ | refine Ext.alloc ?_ _ | refine Ext.trans ?_ (by assumption))))⟩
  obtain ⟨a1, a2, a3, a4⟩ := boxes4 w (.func (.func gf) #[] lb) (.slice A n c) (.slice B m d) (.bool en) 28 23 23 4
  exact ⟨a1, a2, a4, a3⟩

set_option maxRecDepth 100000 in
set_option maxHeartbeats 8000000 in
theorem clip_iter (gf : Nat) (lb : Array Value) (es : List Ent) (A B : Option Addr) (n c m d : Nat) (f t : Bs) (en : Bool) (g1 g2 g3 g4 : Nat) (w0 : World) (hin : Iter gf lb es w0) (hes : es.length ≤ 1000000) (hf : Rd w0 A n f) (ht : Rd w0 B m t)
    (h1 : w0.cell? ⟨g1, 0, none⟩ = some (.func (.func gf) #[] lb)) (h2 : w0.cell? ⟨g2, 0, none⟩ = some (.slice A n c)) (h3 : w0.cell? ⟨g3, 0, none⟩ = some (.bool en)) (h4 : w0.cell? ⟨g4, 0, none⟩ = some (.slice B m d)) :
    Iter 19 #[.pointer (some ⟨g1, 0, none⟩), .pointer (some ⟨g2, 0, none⟩), .pointer (some ⟨g3, 0, none⟩), .pointer (some ⟨g4, 0, none⟩)] (es.filter (clpP f t en)) w0 := by
  refine ⟨enters_of Try.func19 (by kernel_rfl) rfl, fun Wa hWa S Wb hS hWb => ?_⟩
  intro num l J Jx W hW hJ hJx hY hJ0
  have hX0 := (hWa.trans hWb).trans hW
  have HS : Hid (∀ k, k < w0.heap.size → k < W.heap.size ∧ ¬ S k) := Lib.hid fun k hk => ⟨Nat.lt_of_lt_of_le hk hX0.size, fun h => by have h1 := hS k h; have h2 := hWa.size; omega⟩
  have hWs : Wa.heap.size ≤ W.heap.size := (hWb.trans hW).size
  have b1 := hX0.keeps' h1
  have H1 := Lib.hid h1
  have H2 := Lib.hid h2
  have H3 := Lib.hid h3
  have H4 := Lib.hid h4
  have HF := Lib.hid hf
  have HT := Lib.hid ht
  clear h1 h2 h3 h4 hf ht
  refine callsIn_of_wp Try.func19 rfl trivial ?_ rfl
  simp only [Try.ntmps19, List.size_toArray, List.length_cons, List.length_nil, Nat.reduceAdd, Nat.reduceSub, Array.replicate_succ, Array.replicate_zero, List.push_toArray, List.append_toArray, List.nil_append, List.cons_append]
  gi_wp2
  refine ⟨trivial, fun h => (by simp [Fence.wide] at h), ?_⟩
  refine (callsIn_wide.2 (collect_it hin hX0 hes)).mono ?_
  rintro e w1 ⟨v, rfl, hO, hw1⟩
  obtain ⟨Al, nl, cl, rfl, hcl, hrl, _⟩ := hO.ownL.formN (by unfold B41; omega)
  have hnl : es.length = nl := hrl.1
  subst hnl
  obtain ⟨T, hT⟩ : ∃ T : Nat → Prop, T = fun j => W.heap.size ≤ j ∧ j < w1.heap.size := ⟨_, rfl⟩
  have HO := Lib.hid hO
  have HTT := Lib.hid (fun k => by rw [hT] : ∀ k, T k ↔ W.heap.size ≤ k ∧ k < w1.heap.size)
  have HJ1 : Hid (J [] T (fun _ => False) w1) := Lib.hid (hJ _ _ T _ _ _ w1 hJ0 (Kept.of_ext hw1) (U8.of_ext hw1) (fun _ h => h.elim) (fun k h => .inr ((HTT.out k).1 h).1) (fun _ h => h) (fun _ h => .inl h))
  have HK1 : Hid (Kept (fun j => j < W.heap.size ∧ ¬ S j) W w1) := Lib.hid (Kept.of_ext hw1)
  clear hO hrl hT hw1 b1
  gi_wp2
  gi_loopw [11] (fun u wr => ∃ k : Nat, u = .int .i64 k ∧ k ≤ es.length ∧ Hid (J ((es.take k).filter (clpP f t en)) T (fun _ => False) wr) ∧ Hid (Kept (fun j => j < W.heap.size ∧ ¬ S j) W wr) ∧ Hid (Kept T w1 wr)) (fun u _ => es.length - (intOf u).toNat)
  case atStart => exact ⟨0, rfl, Nat.zero_le _, HJ1, HK1, Lib.hid (Kept.rfl_ _ _)⟩
  case round =>
    obtain ⟨k, rfl, hk, HJ, HKP, HKT⟩ := hrel
    by_cases hkc : k = es.length
    · have HJE := Lib.hid (show J (es.filter (clpP f t en)) T (fun _ => False) wr from by have := HJ.out; rwa [List.take_of_length_le (by omega)] at this)
      subst hkc
      gi_wp2
      go_end0
      exact ⟨⟨_, rfl⟩, .inl ⟨T, _, HJE.out⟩⟩
    · have hkn : k < es.length := by omega
      have hltc : (k : Int) < (es.length : Int) := by omega
      have HOr := Lib.hid (HO.out.keptHi (HKT.out.mono fun j hj => (HTT.out j).2 hj))
      obtain ⟨gg, cc, q, hvv, _, _, _, ⟨d0, d1, d2, d3⟩, hfe⟩ := HOr.out.at_ hkn
      cases hvv
      obtain ⟨x, hx⟩ : ∃ x, x = es[k] := ⟨_, rfl⟩
      rw [← hx] at d1 d2 hfe
      have HFE := Lib.hid hfe
      have HXK := Lib.hid hx
      have xr : Ext w0 wr := HKP.out.ext_of hX0 (fun j hj => HS.out j hj)
      have hwr : IntKind.i64.wrap ((k : Int) + 1) = ((k + 1 : Nat) : Int) := by rw [IntKind.wrap_i64]; omega
      clear hfe hx
      obtain ⟨wb, hwb⟩ : ∃ wb, wb = wr.alloc (.cells #[.slice q.A q.n q.c, .int .i64 x.seq, .int .i64 x.kind, .slice q.B q.m q.d] 37) := ⟨_, rfl⟩
      have hxa : Ext wr wb := by rw [hwb]; exact Ext.alloc (Ext.rfl_ _) _
      have hbx := blk1 wr (.cells #[.slice q.A q.n q.c, .int .i64 x.seq, .int .i64 x.kind, .slice q.B q.m q.d] 37)
      rw [← hwb] at hbx
      obtain ⟨r0, r1, r2, r3, _, _, _, _⟩ := box4 hbx (Ext.rfl_ wb)
      have xb := xr.trans hxa
      have b2 := xb.keeps' H2.out
      rw [hwb] at b2
      have HFB := Lib.hid (HFE.out.extF hxa)
      have HJB := Lib.hid (hJ _ _ T _ (fun _ => False) _ wb HJ.out (Kept.of_ext hxa) (U8.of_ext hxa) (fun _ h => h) (fun _ h => .inl h) (fun _ h => h) (fun _ h => .inl h))
      have HKB := Lib.hid (HKP.out.then_ hxa)
      have HTB := Lib.hid (HKT.out.then_ hxa)
      have HZB := Lib.hid hxa.size
      have HXB := Lib.hid xb
      have hrk : Rd wb q.A q.n x.key := by
        obtain ⟨_, _, _, _, _, _, hv, h1, _⟩ := HFB.out.rd
        simp [cellsE] at hv
        obtain ⟨⟨rfl, rfl, rfl⟩, _⟩ := hv
        exact h1
      have HRK := Lib.hid hrk
      clear HJ HKP HKT HFE hrk xr hbx
      have HYES : Hid (clpP f t en x = true → (es.take (k + 1)).filter (clpP f t en) = (es.take k).filter (clpP f t en) ++ [x] ∧ (es.take k).filter (clpP f t en) ++ [x] <+: es.filter (clpP f t en)) := Lib.hid fun hp => by
        have e1 : (es.take (k + 1)).filter (clpP f t en) = (es.take k).filter (clpP f t en) ++ [x] := by rw [filter_takeE hkn, ← HXK.out, if_pos hp]
        exact ⟨e1, by rw [← e1]; exact (List.take_prefix _ _).filter _⟩
      have HNO : Hid (clpP f t en x = false → (es.take (k + 1)).filter (clpP f t en) = (es.take k).filter (clpP f t en)) := Lib.hid fun hp => by
        rw [filter_takeE hkn, ← HXK.out, if_neg (by rw [hp]; decide), List.append_nil]
      gi_wp2
      rw [← hwb]
      have b3 := xb.keeps' H3.out
      have b4 := xb.keeps' H4.out
      clear hwb hxa xb d0 d1 d2 d3 b2
      refine ⟨trivial, fun h => (by simp [Fence.wide] at h), ?_⟩
      refine (callsIn_wide.2 (bcompare_any _ _ _ _ _ _ x.key f _ HRK.out (HF.out.ext HXB.out))).mono ?_
      rintro e w4 ⟨rfl, rfl⟩
      by_cases hc1 : 0 ≤ cmpK x.key f
      · have hd1 : decide (0 ≤ cmpK x.key f) = true := decide_eq_true hc1
        have HD1 := Lib.hid hd1
        clear hc1
        cases en with
        | true =>
          gi_wp2
          refine ⟨trivial, fun h => (by simp [Fence.wide] at h), ?_⟩
          refine (callsIn_wide.2 (bcompare_any _ _ _ _ _ _ x.key t _ HRK.out (HT.out.ext HXB.out))).mono ?_
          rintro e w4 ⟨rfl, rfl⟩
          by_cases hc2 : cmpK x.key t < 0
          · have hd2 : decide (cmpK x.key t < 0) = true := decide_eq_true hc2
            have HD2 := Lib.hid hd2
            have HPP := Lib.hid (show clpP f t true x = true from by unfold clpP; rw [HD1.out, HD2.out]; rfl)
            obtain ⟨fn, tmps, assign, body, hy, hRd⟩ := hY _ x #[.agg (cellsE q x).toArray] T (fun _ => False) wb (num - 1) HJB.out (HYES.out HPP.out).2 ⟨q, rfl, HFB.out.elt'⟩ (fun k h => ⟨((HTT.out k).1 h).1, by have := ((HTT.out k).1 h).2; have := HTB.out.size; omega⟩) (fun _ h => h.elim) HKB.out.size
            clear hc2
            gi_wp2
            rw [show (Value.agg #[.slice q.A q.n q.c, .int .i64 x.seq, .int .i64 x.kind, .slice q.B q.m q.d]) = .agg (cellsE q x).toArray from rfl, hy]
            refine ⟨fun h => (by simp [Fence.wide] at h), ?_⟩
            refine RoundIn.mono hRd ?_
            rintro e W3 hE
            rcases hE with ⟨rfl, hJ3, hk3⟩ | ⟨rfl, hJ3, hk3⟩
            · have HK3 := Lib.hid (HKB.out.trans (hk3.mono fun k hk => .inr hk))
              have HT3 := Lib.hid (HTB.out.trans (hk3.mono fun k hk => .inl hk))
              have HJ3 := Lib.hid (show J ((es.take (k + 1)).filter (clpP f t true)) T (fun _ => False) W3 from by rw [(HYES.out HPP.out).1]; exact hJ3)
              clear hJ3 hk3 hy hRd
              gi_wp2
              go_roundw
              case rel => exact ⟨k + 1, by go_num, by omega, HJ3, HK3, HT3⟩
              case measure => simp [intOf]; omega
            · have HJ3 := Lib.hid hJ3
              clear hJ3 hk3 hy hRd
              gi_wp2
              refine bodyPost_ret (results_none rfl _ _ _) rfl ?_
              exact ⟨⟨_, rfl⟩, .inr ⟨_, T, _, (HYES.out HPP.out).2, HJ3.out⟩⟩
          · have hd2 : decide (cmpK x.key t < 0) = false := decide_eq_false hc2
            have HD2 := Lib.hid hd2
            have HJ3 := Lib.hid (show J ((es.take (k + 1)).filter (clpP f t true)) T (fun _ => False) wb from by rw [HNO.out (by unfold clpP; rw [HD1.out, HD2.out]; rfl)]; exact HJB.out)
            clear hc2
            gi_wp2
            refine ⟨fun _ h => (by cases h), ?_⟩
            gi_wp2
            go_roundw
            case rel => exact ⟨k + 1, by go_num, by omega, HJ3, HKB, HTB⟩
            case measure => simp [intOf]; omega
        | false =>
          have HPP := Lib.hid (show clpP f t false x = true from by unfold clpP; rw [HD1.out]; rfl)
          obtain ⟨fn, tmps, assign, body, hy, hRd⟩ := hY _ x #[.agg (cellsE q x).toArray] T (fun _ => False) wb (num - 1) HJB.out (HYES.out HPP.out).2 ⟨q, rfl, HFB.out.elt'⟩ (fun k h => ⟨((HTT.out k).1 h).1, by have := ((HTT.out k).1 h).2; have := HTB.out.size; omega⟩) (fun _ h => h.elim) HKB.out.size
          gi_wp2
          refine ⟨trivial, ?_⟩
          gi_wp2
          rw [show (Value.agg #[.slice q.A q.n q.c, .int .i64 x.seq, .int .i64 x.kind, .slice q.B q.m q.d]) = .agg (cellsE q x).toArray from rfl, hy]
          refine ⟨fun h => (by simp [Fence.wide] at h), ?_⟩
          refine RoundIn.mono hRd ?_
          rintro e W3 hE
          rcases hE with ⟨rfl, hJ3, hk3⟩ | ⟨rfl, hJ3, hk3⟩
          · have HK3 := Lib.hid (HKB.out.trans (hk3.mono fun k hk => .inr hk))
            have HT3 := Lib.hid (HTB.out.trans (hk3.mono fun k hk => .inl hk))
            have HJ3 := Lib.hid (show J ((es.take (k + 1)).filter (clpP f t false)) T (fun _ => False) W3 from by rw [(HYES.out HPP.out).1]; exact hJ3)
            clear hJ3 hk3 hy hRd
            gi_wp2
            go_roundw
            case rel => exact ⟨k + 1, by go_num, by omega, HJ3, HK3, HT3⟩
            case measure => simp [intOf]; omega
          · have HJ3 := Lib.hid hJ3
            clear hJ3 hk3 hy hRd
            gi_wp2
            refine bodyPost_ret (results_none rfl _ _ _) rfl ?_
            exact ⟨⟨_, rfl⟩, .inr ⟨_, T, _, (HYES.out HPP.out).2, HJ3.out⟩⟩
      · have hd1 : decide (0 ≤ cmpK x.key f) = false := decide_eq_false hc1
        have HJ3 := Lib.hid (show J ((es.take (k + 1)).filter (clpP f t en)) T (fun _ => False) wb from by rw [HNO.out (by unfold clpP; rw [hd1]; rfl)]; exact HJB.out)
        clear hc1
        gi_wp2
        all_goals (try (exfalso; rename_i h1 h2; injection h1 with h3; cases h3; done))
        refine ⟨trivial, ?_⟩
        gi_wp2
        refine ⟨fun _ h => (by cases h), ?_⟩
        gi_wp2
        go_roundw
        case rel => exact ⟨k + 1, by go_num, by omega, HJ3, HKB, HTB⟩
        case measure => simp [intOf]; omega

end Go.Proofs.Ytmmoopioiheleaa
