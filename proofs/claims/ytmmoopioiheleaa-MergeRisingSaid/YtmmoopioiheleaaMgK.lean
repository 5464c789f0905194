/- merge.Keep's iterator, of entries whose keys are not empty. Conditions: the inner iterator's contract. -/
import Derived.Test.YtmmoopioiheleaaMgI
namespace Go.Proofs.Ytmmoopioiheleaa
set_option linter.unusedSimpArgs false
set_option linter.unusedVariables false
open Go.RowKit Go.Shelf
attribute [local go_sem] Oper.semAt_some

/-- What Keep has let through, its key, and whether the one at floor was come to. -/
structure KpS where
  out : List Ent
  key : Option Bs
  seen : Bool
def kpSeen (s : KpS) (x : Ent) : Bool := if s.key = some x.key then s.seen else false
def kpSkip (fl : Int) (bot : Bool) (s : KpS) (x : Ent) : Bool := decide (x.seq ≤ fl) && (kpSeen s x || (bot && decide (x.kind = 2)))
def kpStep (fl : Int) (bot : Bool) (s : KpS) (x : Ent) : KpS := ⟨if kpSkip fl bot s x = true then s.out else s.out ++ [x], some x.key, kpSeen s x || decide (x.seq ≤ fl)⟩
def kp (fl : Int) (bot : Bool) (l : List Ent) : KpS := l.foldl (kpStep fl bot) ⟨[], none, false⟩
theorem kp_snoc (fl : Int) (bot : Bool) (l : List Ent) (x : Ent) : kp fl bot (l ++ [x]) = kpStep fl bot (kp fl bot l) x := by simp [kp, List.foldl_append]
theorem kpStep_pre (fl : Int) (bot : Bool) (s : KpS) (x : Ent) : s.out <+: (kpStep fl bot s x).out := by
  unfold kpStep
  simp only
  split
  · exact List.prefix_refl _
  · exact List.prefix_append _ _
theorem kp_pre (fl : Int) (bot : Bool) (l r : List Ent) : (kp fl bot l).out <+: (kp fl bot (l ++ r)).out := by
  unfold kp
  rw [List.foldl_append]
  generalize List.foldl (kpStep fl bot) ⟨[], none, false⟩ l = s
  induction r generalizing s with
  | nil => exact List.prefix_refl _
  | cons x r ih => exact (kpStep_pre fl bot s x).trans (ih _)
theorem kp_take (fl : Int) (bot : Bool) {es : List Ent} {k : Nat} (h : k < es.length) : kp fl bot (es.take (k + 1)) = kpStep fl bot (kp fl bot (es.take k)) es[k] := by
  rw [List.take_succ_eq_append_getElem h, kp_snoc]
theorem kp_out (fl : Int) (bot : Bool) {es : List Ent} (k : Nat) : (kp fl bot (es.take k)).out <+: (kp fl bot es).out := by
  have := kp_pre fl bot (es.take k) (es.drop k)
  rwa [List.take_append_drop] at this

theorem boxes3 (w : World) (a b c : Value) (ta tb tc : TypeId) : (((w.alloc (.cells #[a] ta)).alloc (.cells #[b] tb)).alloc (.cells #[c] tc)).cell? ⟨w.heap.size, 0, none⟩ = some a ∧
    (((w.alloc (.cells #[a] ta)).alloc (.cells #[b] tb)).alloc (.cells #[c] tc)).cell? ⟨w.heap.size + 1, 0, none⟩ = some b ∧
    (((w.alloc (.cells #[a] ta)).alloc (.cells #[b] tb)).alloc (.cells #[c] tc)).cell? ⟨w.heap.size + 2, 0, none⟩ = some c := by
  obtain ⟨W1, h1⟩ : ∃ W1, W1 = w.alloc (.cells #[a] ta) := ⟨_, rfl⟩
  obtain ⟨W2, h2⟩ : ∃ W2, W2 = W1.alloc (.cells #[b] tb) := ⟨_, rfl⟩
  obtain ⟨W3, h3⟩ : ∃ W3, W3 = W2.alloc (.cells #[c] tc) := ⟨_, rfl⟩
  have z1 : W1.heap.size = w.heap.size + 1 := by rw [h1, World.size_alloc]
  have z2 : W2.heap.size = w.heap.size + 2 := by rw [h2, World.size_alloc, z1]
  have q1 := (cnew w a ta).1
  have q2 := (cnew W1 b tb).1
  have q3 := (cnew W2 c tc).1
  rw [← h1] at q1
  rw [← h2, z1] at q2
  rw [← h3, z2] at q3
  have x2 : Ext W2 W3 := by rw [h3]; exact Ext.alloc (Ext.rfl_ _) _
  have x1 : Ext W1 W3 := Ext.trans (by rw [h2]; exact Ext.alloc (Ext.rfl_ _) _) x2
  rw [← h1, ← h2, ← h3]
  exact ⟨x1.keeps _ _ _ q1, x2.keeps _ _ _ q2, q3⟩
theorem keep_any (gf : Nat) (lb : Array Value) (fl : Int) (bot : Bool) (w : World) :
    Calls Try.prog 16 #[.func (.func gf) #[] lb, .int .i64 fl, .bool bot] w fun e w' => e = .returned (.func (.func 30) #[] #[.pointer (some ⟨w.heap.size, 0, none⟩), .pointer (some ⟨w.heap.size + 1, 0, none⟩), .pointer (some ⟨w.heap.size + 2, 0, none⟩)]) ∧
      (w'.cell? ⟨w.heap.size, 0, none⟩ = some (.func (.func gf) #[] lb) ∧ w'.cell? ⟨w.heap.size + 1, 0, none⟩ = some (.int .i64 fl) ∧ w'.cell? ⟨w.heap.size + 2, 0, none⟩ = some (.bool bot)) ∧ Ext w w' := by
  go_enter Try.func16, Try.ntmps16
  go_wp2
  go_ret
  refine ⟨rfl, ?_, (by with_reducible (repeat (first | exact Ext.rfl_ _ | assumption | refine Ext.drew ?_ | refine Ext.drewN ?_ _ | refine Ext.alloc ?_ _ | refine Ext.trans ?_ (by assumption))))⟩
  exact boxes3 w (.func (.func gf) #[] lb) (.int .i64 fl) (.bool bot) 28 2 4

/-- How far Keep is. -/
def KpK (es : List Ent) (Al : Option Addr) (T : Nat → Prop) (w1 : World) (k : Nat) (key : Option Bs) (v : Value) : Prop :=
  (key = none ∧ v = .slice none 0 0) ∨ (∃ (gg j : Nat) (hj : j < es.length), Al = some ⟨gg, 0, none⟩ ∧ T gg ∧ j < k ∧ key = some es[j].key ∧ w1.cell? ⟨gg, j * 4, none⟩ = some v)

set_option maxRecDepth 100000 in
set_option maxHeartbeats 8000000 in
theorem keep_iter (gf : Nat) (lb : Array Value) (es : List Ent) (fl : Int) (bot : Bool) (g1 g2 g3 : Nat) (w0 : World) (hin : Iter gf lb es w0) (hes : es.length ≤ 1000000) (hne : ∀ x ∈ es, x.key ≠ [])
    (h1 : w0.cell? ⟨g1, 0, none⟩ = some (.func (.func gf) #[] lb)) (h2 : w0.cell? ⟨g2, 0, none⟩ = some (.int .i64 fl)) (h3 : w0.cell? ⟨g3, 0, none⟩ = some (.bool bot)) :
    Iter 30 #[.pointer (some ⟨g1, 0, none⟩), .pointer (some ⟨g2, 0, none⟩), .pointer (some ⟨g3, 0, none⟩)] (kp fl bot es).out w0 := by
  refine ⟨enters_of Try.func30 (by kernel_rfl) rfl, fun Wa hWa S Wb hS hWb => ?_⟩
  intro num l J Jx W hW hJ hJx hY hJ0
  have hX0 := (hWa.trans hWb).trans hW
  have HS : Hid (∀ k, k < w0.heap.size → k < W.heap.size ∧ ¬ S k) := Lib.hid fun k hk => ⟨Nat.lt_of_lt_of_le hk hX0.size, fun h => by have h1 := hS k h; have h2 := hWa.size; omega⟩
  have b1 := hX0.keeps' h1
  have H2 := Lib.hid h2
  have H3 := Lib.hid h3
  have q22 : ∀ (w : World) (a : Option Addr) (n c n' c' : Nat), (binOp .eql 23 (.slice a n c) (.slice none n' c')).run Try.prog w = .ok (.bool a.isNone) w := fun w a n c n' c' => Lib.run_eql_slice_nil w _ _ a n c n' c' Try.underlying23
  have HNE := Lib.hid hne
  clear h1 h2 h3 hne
  refine callsIn_of_wp Try.func30 rfl trivial ?_ rfl
  simp only [Try.ntmps30, List.size_toArray, List.length_cons, List.length_nil, Nat.reduceAdd, Nat.reduceSub, Array.replicate_succ, Array.replicate_zero, List.push_toArray, List.append_toArray, List.nil_append, List.cons_append]
  gi_wp2
  refine ⟨trivial, fun h => (by simp [Fence.wide] at h), ?_⟩
  refine (callsIn_wide.2 (collect_it hin hX0 hes)).mono ?_
  rintro e w1 ⟨v, rfl, hO, hw1⟩
  obtain ⟨Al, nl, cl, rfl, hcl, hrl, _⟩ := hO.ownL.formN (by unfold B41; omega)
  have hnl : es.length = nl := hrl.1
  subst hnl
  obtain ⟨T, hT⟩ : ∃ T : Nat → Prop, T = fun j => W.heap.size ≤ j ∧ j < w1.heap.size := ⟨_, rfl⟩
  have HO := Lib.hid hO
  have HTT := Lib.hid (fun k => by rw [hT] : ∀ k, T k ↔ W.heap.size ≤ k ∧ k < w1.heap.size)
  have HJ1 : Hid (J [] T (fun _ => False) w1) := Lib.hid (hJ _ _ T _ _ _ w1 hJ0 (Kept.of_ext hw1) (U8.of_ext hw1) (fun _ h => h.elim) (fun k h => .inr ((HTT.out k).1 h).1) (fun _ h => h) (fun _ h => .inl h))
  have HK1 : Hid (Kept (fun j => j < W.heap.size ∧ ¬ S j) W w1) := Lib.hid (Kept.of_ext hw1)
  clear hO hrl hT hw1 b1
  gi_wp2
  gi_loopw [5, 6, 12] (fun vk vs u wr => ∃ (k : Nat) (uk : Value), u = .int .i64 k ∧ k ≤ es.length ∧ vk = uk ∧ vs = .bool (kp fl bot (es.take k)).seen ∧ Hid (J (kp fl bot (es.take k)).out T (fun _ => False) wr) ∧ Hid (Kept (fun j => j < W.heap.size ∧ ¬ S j) W wr) ∧ Hid (Kept T w1 wr) ∧ Hid (KpK es Al T w1 k (kp fl bot (es.take k)).key uk)) (fun _ _ u _ => es.length - (intOf u).toNat)
  case atStart => exact ⟨0, _, rfl, Nat.zero_le _, rfl, rfl, HJ1, HK1, Lib.hid (Kept.rfl_ _ _), Lib.hid (.inl ⟨rfl, rfl⟩)⟩
  case round =>
    obtain ⟨k, uk, rfl, hk, rfl, rfl, HJ, HKP, HKT, HKEY⟩ := hrel
    by_cases hkc : k = es.length
    · have HJE := Lib.hid (show J (kp fl bot es).out T (fun _ => False) wr from by have := HJ.out; rwa [List.take_of_length_le (by omega)] at this)
      subst hkc
      gi_wp2
      go_end0
      exact ⟨⟨_, rfl⟩, .inl ⟨T, _, HJE.out⟩⟩
    · have hkn : k < es.length := by omega
      have hltc : (k : Int) < (es.length : Int) := by omega
      have HOr := Lib.hid (HO.out.keptHi (HKT.out.mono fun j hj => (HTT.out j).2 hj))
      obtain ⟨gg, cc, q, hvv, _, hgg, _, ⟨d0, d1, d2, d3⟩, hfe⟩ := HOr.out.at_ hkn
      cases hvv
      obtain ⟨x, hx⟩ : ∃ x, x = es[k] := ⟨_, rfl⟩
      rw [← hx] at d1 d2 hfe
      have hg1 : T gg := (HTT.out gg).2 ⟨hgg, (HO.out.lt gg rfl).2⟩
      have HGT := Lib.hid hg1
      have HD0 : Hid (w1.cell? ⟨gg, k * 4, none⟩ = some (.slice q.A q.n q.c)) := Lib.hid ((blk_cell (HKT.out.block gg (HO.out.lt gg rfl).2 hg1)).symm.trans d0)
      have HFE := Lib.hid hfe
      have HXK := Lib.hid hx
      have HXN : Hid (x.key ≠ []) := Lib.hid (by rw [hx]; exact HNE.out _ (List.getElem_mem hkn))
      have xr : Ext w0 wr := HKP.out.ext_of hX0 (fun j hj => HS.out j hj)
      have hwr : IntKind.i64.wrap ((k : Int) + 1) = ((k + 1 : Nat) : Int) := by rw [IntKind.wrap_i64]; omega
      have HKP2 : Hid (kp fl bot (es.take (k + 1)) = kpStep fl bot (kp fl bot (es.take k)) x) := Lib.hid (by rw [kp_take fl bot hkn, hx])
      have HKY : Hid ((kp fl bot (es.take (k + 1))).key = some x.key) := Lib.hid (by rw [HKP2.out]; rfl)
      have HPF : Hid ((kp fl bot (es.take (k + 1))).out <+: (kp fl bot es).out) := Lib.hid (kp_out fl bot (k + 1))
      clear hfe hx hg1
      obtain ⟨wb, hwb⟩ : ∃ wb, wb = wr.alloc (.cells #[.slice q.A q.n q.c, .int .i64 x.seq, .int .i64 x.kind, .slice q.B q.m q.d] 37) := ⟨_, rfl⟩
      have hxa : Ext wr wb := by rw [hwb]; exact Ext.alloc (Ext.rfl_ _) _
      have hbx := blk1 wr (.cells #[.slice q.A q.n q.c, .int .i64 x.seq, .int .i64 x.kind, .slice q.B q.m q.d] 37)
      rw [← hwb] at hbx
      obtain ⟨r0, r1, r2, r3, _, _, _, _⟩ := box4 hbx (Ext.rfl_ wb)
      have xb := xr.trans hxa
      have HFB := Lib.hid (HFE.out.extF hxa)
      have HJB := Lib.hid (hJ _ _ T _ (fun _ => False) _ wb HJ.out (Kept.of_ext hxa) (U8.of_ext hxa) (fun _ h => h) (fun _ h => .inl h) (fun _ h => h) (fun _ h => .inl h))
      have HKB := Lib.hid (HKP.out.then_ hxa)
      have HTB := Lib.hid (HKT.out.then_ hxa)
      have hrk : Rd wb q.A q.n x.key := by
        obtain ⟨_, _, _, _, _, _, hv, h1, _⟩ := HFB.out.rd
        simp [cellsE] at hv
        obtain ⟨⟨rfl, rfl, rfl⟩, _⟩ := hv
        exact h1
      have HRK := Lib.hid hrk
      have b2 := xb.keeps' H2.out
      have b3 := xb.keeps' H3.out
      clear HJ HKP HFE hrk xr hbx xb
      rcases HKEY.out with ⟨hk0, hv0⟩ | ⟨gg', j, hj, he, _, hjk, hkj, hvj⟩
      · subst hv0
        have HSEEN : Hid (kpSeen (kp fl bot (es.take k)) x = false) := Lib.hid (by unfold kpSeen; rw [hk0]; simp)
        obtain ⟨ky, hky⟩ : ∃ ky : Bs, ky = [] := ⟨_, rfl⟩
        have HKR : Hid (Rd wb none 0 ky) := Lib.hid (by rw [hky]; exact Rd.nil _ _)
        have hde : decide (ky = x.key) = false := decide_eq_false (fun h => HXN.out (by rw [← h, hky]))
        clear hk0 hky
        gi_wp2
        rw [← hwb]
        clear hwb hxa d0 d1 d2 d3
        refine ⟨trivial, fun h => (by simp [Fence.wide] at h), ?_⟩
        refine (callsIn_wide.2 (bequal_any _ _ _ _ _ _ ky x.key _ HKR.out HRK.out)).mono ?_
        rintro e w4 ⟨rfl, rfl⟩
        by_cases hsq : x.seq ≤ fl
        · have hds : decide (x.seq ≤ fl) = true := decide_eq_true hsq
          have HDS := Lib.hid hds
          clear hsq
          cases hb : bot with
          | true =>
            subst hb
            by_cases hkd : x.kind = 2
            · have hdk : (x.kind == 2) = true := by simp [hkd]
              have HDK : Hid (decide (x.kind = 2) = true) := Lib.hid (decide_eq_true hkd)
              clear hkd
              have HST : Hid ((kp fl true (es.take (k + 1))).out = (kp fl true (es.take k)).out) := Lib.hid (by rw [HKP2.out]; unfold kpStep kpSkip; rw [HSEEN.out, HDS.out]; simp [HDK.out])
              have HSN : Hid ((kp fl true (es.take (k + 1))).seen = true) := Lib.hid (by rw [HKP2.out]; unfold kpStep; simp only; rw [HSEEN.out, HDS.out]; rfl)
              gi_wp2
              go_roundw
              case rel => exact ⟨k + 1, _, by go_num, by omega, rfl, by rw [HSN.out], Lib.hid (by rw [HST.out]; exact HJB.out), HKB, HTB, Lib.hid (.inr ⟨gg, k, hkn, rfl, HGT.out, Nat.lt_succ_self k, by rw [HKY.out, HXK.out], HD0.out⟩)⟩
              case measure => simp [intOf]; omega
            · have hdk : (x.kind == 2) = false := by simp [hkd]
              have HDK : Hid (decide (x.kind = 2) = false) := Lib.hid (decide_eq_false hkd)
              clear hkd
              have HST : Hid ((kp fl true (es.take (k + 1))).out = (kp fl true (es.take k)).out ++ [x]) := Lib.hid (by rw [HKP2.out]; unfold kpStep kpSkip; rw [HSEEN.out, HDS.out]; simp [HDK.out])
              have HSN : Hid ((kp fl true (es.take (k + 1))).seen = true) := Lib.hid (by rw [HKP2.out]; unfold kpStep; simp only; rw [HSEEN.out, HDS.out]; rfl)
              obtain ⟨fn, tmps, assign, body, hy, hRd⟩ := hY _ x #[.agg (cellsE q x).toArray] T (fun _ => False) wb (num - 1) HJB.out (by rw [← HST.out]; exact HPF.out) ⟨q, rfl, HFB.out.elt'⟩ (fun k h => ⟨((HTT.out k).1 h).1, by have := ((HTT.out k).1 h).2; have := HTB.out.size; omega⟩) (fun _ h => h.elim) HKB.out.size
              gi_wp2
              rw [show (Value.agg #[.slice q.A q.n q.c, .int .i64 x.seq, .int .i64 x.kind, .slice q.B q.m q.d]) = .agg (cellsE q x).toArray from rfl, hy]
              refine ⟨fun h => (by simp [Fence.wide] at h), ?_⟩
              refine RoundIn.mono hRd ?_
              rintro e W3 hE
              rcases hE with ⟨rfl, hJ3, hk3⟩ | ⟨rfl, hJ3, hk3⟩
              · have HK3 := Lib.hid (HKB.out.trans (hk3.mono fun k hk => .inr hk))
                have HT3 := Lib.hid (HTB.out.trans (hk3.mono fun k hk => .inl hk))
                have HJ3 := Lib.hid (show J (kp fl true (es.take (k + 1))).out T (fun _ => False) W3 from by rw [HST.out]; exact hJ3)
                clear hJ3 hk3 hy hRd
                gi_wp2
                go_roundw
                case rel => exact ⟨k + 1, _, by go_num, by omega, rfl, by rw [HSN.out], HJ3, HK3, HT3, Lib.hid (.inr ⟨gg, k, hkn, rfl, HGT.out, Nat.lt_succ_self k, by rw [HKY.out, HXK.out], HD0.out⟩)⟩
                case measure => simp [intOf]; omega
              · have HJ3 := Lib.hid hJ3
                clear hJ3 hk3 hy hRd
                gi_wp2
                refine bodyPost_ret (results_none rfl _ _ _) rfl ?_
                exact ⟨⟨_, rfl⟩, .inr ⟨_, T, _, by rw [← HST.out]; exact HPF.out, HJ3.out⟩⟩
          | false =>
            subst hb
            have HST : Hid ((kp fl false (es.take (k + 1))).out = (kp fl false (es.take k)).out ++ [x]) := Lib.hid (by rw [HKP2.out]; unfold kpStep kpSkip; rw [HSEEN.out, HDS.out]; simp )
            have HSN : Hid ((kp fl false (es.take (k + 1))).seen = true) := Lib.hid (by rw [HKP2.out]; unfold kpStep; simp only; rw [HSEEN.out, HDS.out]; rfl)
            obtain ⟨fn, tmps, assign, body, hy, hRd⟩ := hY _ x #[.agg (cellsE q x).toArray] T (fun _ => False) wb (num - 1) HJB.out (by rw [← HST.out]; exact HPF.out) ⟨q, rfl, HFB.out.elt'⟩ (fun k h => ⟨((HTT.out k).1 h).1, by have := ((HTT.out k).1 h).2; have := HTB.out.size; omega⟩) (fun _ h => h.elim) HKB.out.size
            gi_wp2
            rw [show (Value.agg #[.slice q.A q.n q.c, .int .i64 x.seq, .int .i64 x.kind, .slice q.B q.m q.d]) = .agg (cellsE q x).toArray from rfl, hy]
            refine ⟨fun h => (by simp [Fence.wide] at h), ?_⟩
            refine RoundIn.mono hRd ?_
            rintro e W3 hE
            rcases hE with ⟨rfl, hJ3, hk3⟩ | ⟨rfl, hJ3, hk3⟩
            · have HK3 := Lib.hid (HKB.out.trans (hk3.mono fun k hk => .inr hk))
              have HT3 := Lib.hid (HTB.out.trans (hk3.mono fun k hk => .inl hk))
              have HJ3 := Lib.hid (show J (kp fl false (es.take (k + 1))).out T (fun _ => False) W3 from by rw [HST.out]; exact hJ3)
              clear hJ3 hk3 hy hRd
              gi_wp2
              go_roundw
              case rel => exact ⟨k + 1, _, by go_num, by omega, rfl, by rw [HSN.out], HJ3, HK3, HT3, Lib.hid (.inr ⟨gg, k, hkn, rfl, HGT.out, Nat.lt_succ_self k, by rw [HKY.out, HXK.out], HD0.out⟩)⟩
              case measure => simp [intOf]; omega
            · have HJ3 := Lib.hid hJ3
              clear hJ3 hk3 hy hRd
              gi_wp2
              refine bodyPost_ret (results_none rfl _ _ _) rfl ?_
              exact ⟨⟨_, rfl⟩, .inr ⟨_, T, _, by rw [← HST.out]; exact HPF.out, HJ3.out⟩⟩
        · have hds : decide (x.seq ≤ fl) = false := decide_eq_false hsq
          have HDS := Lib.hid hds
          clear hsq
          have HST : Hid ((kp fl bot (es.take (k + 1))).out = (kp fl bot (es.take k)).out ++ [x]) := Lib.hid (by rw [HKP2.out]; unfold kpStep kpSkip; rw [HSEEN.out, HDS.out]; simp )
          have HSN : Hid ((kp fl bot (es.take (k + 1))).seen = false) := Lib.hid (by rw [HKP2.out]; unfold kpStep; simp only; rw [HSEEN.out, HDS.out]; rfl)
          obtain ⟨fn, tmps, assign, body, hy, hRd⟩ := hY _ x #[.agg (cellsE q x).toArray] T (fun _ => False) wb (num - 1) HJB.out (by rw [← HST.out]; exact HPF.out) ⟨q, rfl, HFB.out.elt'⟩ (fun k h => ⟨((HTT.out k).1 h).1, by have := ((HTT.out k).1 h).2; have := HTB.out.size; omega⟩) (fun _ h => h.elim) HKB.out.size
          gi_wp2
          rw [show (Value.agg #[.slice q.A q.n q.c, .int .i64 x.seq, .int .i64 x.kind, .slice q.B q.m q.d]) = .agg (cellsE q x).toArray from rfl, hy]
          refine ⟨fun h => (by simp [Fence.wide] at h), ?_⟩
          refine RoundIn.mono hRd ?_
          rintro e W3 hE
          rcases hE with ⟨rfl, hJ3, hk3⟩ | ⟨rfl, hJ3, hk3⟩
          · have HK3 := Lib.hid (HKB.out.trans (hk3.mono fun k hk => .inr hk))
            have HT3 := Lib.hid (HTB.out.trans (hk3.mono fun k hk => .inl hk))
            have HJ3 := Lib.hid (show J (kp fl bot (es.take (k + 1))).out T (fun _ => False) W3 from by rw [HST.out]; exact hJ3)
            clear hJ3 hk3 hy hRd
            gi_wp2
            go_roundw
            case rel => exact ⟨k + 1, _, by go_num, by omega, rfl, by rw [HSN.out], HJ3, HK3, HT3, Lib.hid (.inr ⟨gg, k, hkn, rfl, HGT.out, Nat.lt_succ_self k, by rw [HKY.out, HXK.out], HD0.out⟩)⟩
            case measure => simp [intOf]; omega
          · have HJ3 := Lib.hid hJ3
            clear hJ3 hk3 hy hRd
            gi_wp2
            refine bodyPost_ret (results_none rfl _ _ _) rfl ?_
            exact ⟨⟨_, rfl⟩, .inr ⟨_, T, _, by rw [← HST.out]; exact HPF.out, HJ3.out⟩⟩
      · cases he
        obtain ⟨gg2, cc2, q2, hvv2, _, _, _, ⟨f0, _⟩, hfe2⟩ := HOr.out.at_ hj
        cases hvv2
        have hv5 : u5 = .slice q2.A q2.n q2.c := by
          have h1 := (blk_cell (o := j * 4) (HKT.out.block gg (HO.out.lt gg rfl).2 HGT.out)).trans hvj
          rw [h1] at f0
          exact Option.some.inj f0
        subst hv5
        obtain ⟨ky, hky⟩ : ∃ ky : Bs, ky = es[j].key := ⟨_, rfl⟩
        have hkyn : ky ≠ [] := by rw [hky]; exact HNE.out _ (List.getElem_mem hj)
        have hrk2 : Rd wb q2.A q2.n ky := by
          obtain ⟨_, _, _, _, _, _, hv, h1, _⟩ := (hfe2.extF hxa).rd
          simp [cellsE] at hv
          obtain ⟨⟨rfl, rfl, rfl⟩, _⟩ := hv
          rw [hky]
          exact h1
        have hsome : q2.A.isNone = false := by
          obtain ⟨b, o, e, _⟩ := hrk2.2 (by rw [← hrk2.1]; exact List.length_pos_iff.2 hkyn)
          rw [e]; rfl
        have HKR := Lib.hid hrk2
        have HVJ := Lib.hid hvj
        have HKJ := Lib.hid hkj
        have HKYE := Lib.hid hky
        clear hrk2 hvj f0 hfe2 hky hkj
        by_cases hkx : ky = x.key
        · have hde : decide (ky = x.key) = true := decide_eq_true hkx
          have HEQ : Hid (es[j].key = x.key) := Lib.hid (by rw [← HKYE.out, hkx])
          have HS0 : Hid (kpSeen (kp fl bot (es.take k)) x = (kp fl bot (es.take k)).seen) := Lib.hid (by unfold kpSeen; rw [HKJ.out, HEQ.out, if_pos rfl])
          clear hkx hkyn
          cases hsn : (kp fl bot (es.take k)).seen with
          | true =>
            have HSEEN := Lib.hid (HS0.out.trans hsn)
            clear hsn
            gi_wp2
            rw [← hwb]
            clear hwb hxa d0 d1 d2 d3
            refine ⟨trivial, fun h => (by simp [Fence.wide] at h), ?_⟩
            refine (callsIn_wide.2 (bequal_any _ _ _ _ _ _ ky x.key _ HKR.out HRK.out)).mono ?_
            rintro e w4 ⟨rfl, rfl⟩
            by_cases hsq : x.seq ≤ fl
            · have hds : decide (x.seq ≤ fl) = true := decide_eq_true hsq
              have HDS := Lib.hid hds
              clear hsq
              have HST : Hid ((kp fl bot (es.take (k + 1))).out = (kp fl bot (es.take k)).out) := Lib.hid (by rw [HKP2.out]; unfold kpStep kpSkip; rw [HSEEN.out, HDS.out]; simp )
              have HSN : Hid ((kp fl bot (es.take (k + 1))).seen = true) := Lib.hid (by rw [HKP2.out]; unfold kpStep; simp only; rw [HSEEN.out, HDS.out]; rfl)
              gi_wp2
              go_roundw
              case rel => exact ⟨k + 1, _, by go_num, by omega, rfl, by rw [HSN.out], Lib.hid (by rw [HST.out]; exact HJB.out), HKB, HTB, Lib.hid (.inr ⟨gg, j, hj, rfl, HGT.out, Nat.lt_succ_of_lt hjk, by rw [HKY.out, ← HEQ.out], HVJ.out⟩)⟩
              case measure => simp [intOf]; omega
            · have hds : decide (x.seq ≤ fl) = false := decide_eq_false hsq
              have HDS := Lib.hid hds
              clear hsq
              have HST : Hid ((kp fl bot (es.take (k + 1))).out = (kp fl bot (es.take k)).out ++ [x]) := Lib.hid (by rw [HKP2.out]; unfold kpStep kpSkip; rw [HSEEN.out, HDS.out]; simp )
              have HSN : Hid ((kp fl bot (es.take (k + 1))).seen = true) := Lib.hid (by rw [HKP2.out]; unfold kpStep; simp only; rw [HSEEN.out, HDS.out]; rfl)
              obtain ⟨fn, tmps, assign, body, hy, hRd⟩ := hY _ x #[.agg (cellsE q x).toArray] T (fun _ => False) wb (num - 1) HJB.out (by rw [← HST.out]; exact HPF.out) ⟨q, rfl, HFB.out.elt'⟩ (fun k h => ⟨((HTT.out k).1 h).1, by have := ((HTT.out k).1 h).2; have := HTB.out.size; omega⟩) (fun _ h => h.elim) HKB.out.size
              gi_wp2
              rw [show (Value.agg #[.slice q.A q.n q.c, .int .i64 x.seq, .int .i64 x.kind, .slice q.B q.m q.d]) = .agg (cellsE q x).toArray from rfl, hy]
              refine ⟨fun h => (by simp [Fence.wide] at h), ?_⟩
              refine RoundIn.mono hRd ?_
              rintro e W3 hE
              rcases hE with ⟨rfl, hJ3, hk3⟩ | ⟨rfl, hJ3, hk3⟩
              · have HK3 := Lib.hid (HKB.out.trans (hk3.mono fun k hk => .inr hk))
                have HT3 := Lib.hid (HTB.out.trans (hk3.mono fun k hk => .inl hk))
                have HJ3 := Lib.hid (show J (kp fl bot (es.take (k + 1))).out T (fun _ => False) W3 from by rw [HST.out]; exact hJ3)
                clear hJ3 hk3 hy hRd
                gi_wp2
                go_roundw
                case rel => exact ⟨k + 1, _, by go_num, by omega, rfl, by rw [HSN.out], HJ3, HK3, HT3, Lib.hid (.inr ⟨gg, j, hj, rfl, HGT.out, Nat.lt_succ_of_lt hjk, by rw [HKY.out, ← HEQ.out], HVJ.out⟩)⟩
                case measure => simp [intOf]; omega
              · have HJ3 := Lib.hid hJ3
                clear hJ3 hk3 hy hRd
                gi_wp2
                refine bodyPost_ret (results_none rfl _ _ _) rfl ?_
                exact ⟨⟨_, rfl⟩, .inr ⟨_, T, _, by rw [← HST.out]; exact HPF.out, HJ3.out⟩⟩
          | false =>
            have HSEEN := Lib.hid (HS0.out.trans hsn)
            clear hsn
            gi_wp2
            rw [← hwb]
            clear hwb hxa d0 d1 d2 d3
            refine ⟨trivial, fun h => (by simp [Fence.wide] at h), ?_⟩
            refine (callsIn_wide.2 (bequal_any _ _ _ _ _ _ ky x.key _ HKR.out HRK.out)).mono ?_
            rintro e w4 ⟨rfl, rfl⟩
            by_cases hsq : x.seq ≤ fl
            · have hds : decide (x.seq ≤ fl) = true := decide_eq_true hsq
              have HDS := Lib.hid hds
              clear hsq
              cases hb : bot with
              | true =>
                subst hb
                by_cases hkd : x.kind = 2
                · have hdk : (x.kind == 2) = true := by simp [hkd]
                  have HDK : Hid (decide (x.kind = 2) = true) := Lib.hid (decide_eq_true hkd)
                  clear hkd
                  have HST : Hid ((kp fl true (es.take (k + 1))).out = (kp fl true (es.take k)).out) := Lib.hid (by rw [HKP2.out]; unfold kpStep kpSkip; rw [HSEEN.out, HDS.out]; simp [HDK.out])
                  have HSN : Hid ((kp fl true (es.take (k + 1))).seen = true) := Lib.hid (by rw [HKP2.out]; unfold kpStep; simp only; rw [HSEEN.out, HDS.out]; rfl)
                  gi_wp2
                  go_roundw
                  case rel => exact ⟨k + 1, _, by go_num, by omega, rfl, by rw [HSN.out], Lib.hid (by rw [HST.out]; exact HJB.out), HKB, HTB, Lib.hid (.inr ⟨gg, j, hj, rfl, HGT.out, Nat.lt_succ_of_lt hjk, by rw [HKY.out, ← HEQ.out], HVJ.out⟩)⟩
                  case measure => simp [intOf]; omega
                · have hdk : (x.kind == 2) = false := by simp [hkd]
                  have HDK : Hid (decide (x.kind = 2) = false) := Lib.hid (decide_eq_false hkd)
                  clear hkd
                  have HST : Hid ((kp fl true (es.take (k + 1))).out = (kp fl true (es.take k)).out ++ [x]) := Lib.hid (by rw [HKP2.out]; unfold kpStep kpSkip; rw [HSEEN.out, HDS.out]; simp [HDK.out])
                  have HSN : Hid ((kp fl true (es.take (k + 1))).seen = true) := Lib.hid (by rw [HKP2.out]; unfold kpStep; simp only; rw [HSEEN.out, HDS.out]; rfl)
                  obtain ⟨fn, tmps, assign, body, hy, hRd⟩ := hY _ x #[.agg (cellsE q x).toArray] T (fun _ => False) wb (num - 1) HJB.out (by rw [← HST.out]; exact HPF.out) ⟨q, rfl, HFB.out.elt'⟩ (fun k h => ⟨((HTT.out k).1 h).1, by have := ((HTT.out k).1 h).2; have := HTB.out.size; omega⟩) (fun _ h => h.elim) HKB.out.size
                  gi_wp2
                  rw [show (Value.agg #[.slice q.A q.n q.c, .int .i64 x.seq, .int .i64 x.kind, .slice q.B q.m q.d]) = .agg (cellsE q x).toArray from rfl, hy]
                  refine ⟨fun h => (by simp [Fence.wide] at h), ?_⟩
                  refine RoundIn.mono hRd ?_
                  rintro e W3 hE
                  rcases hE with ⟨rfl, hJ3, hk3⟩ | ⟨rfl, hJ3, hk3⟩
                  · have HK3 := Lib.hid (HKB.out.trans (hk3.mono fun k hk => .inr hk))
                    have HT3 := Lib.hid (HTB.out.trans (hk3.mono fun k hk => .inl hk))
                    have HJ3 := Lib.hid (show J (kp fl true (es.take (k + 1))).out T (fun _ => False) W3 from by rw [HST.out]; exact hJ3)
                    clear hJ3 hk3 hy hRd
                    gi_wp2
                    go_roundw
                    case rel => exact ⟨k + 1, _, by go_num, by omega, rfl, by rw [HSN.out], HJ3, HK3, HT3, Lib.hid (.inr ⟨gg, j, hj, rfl, HGT.out, Nat.lt_succ_of_lt hjk, by rw [HKY.out, ← HEQ.out], HVJ.out⟩)⟩
                    case measure => simp [intOf]; omega
                  · have HJ3 := Lib.hid hJ3
                    clear hJ3 hk3 hy hRd
                    gi_wp2
                    refine bodyPost_ret (results_none rfl _ _ _) rfl ?_
                    exact ⟨⟨_, rfl⟩, .inr ⟨_, T, _, by rw [← HST.out]; exact HPF.out, HJ3.out⟩⟩
              | false =>
                subst hb
                have HST : Hid ((kp fl false (es.take (k + 1))).out = (kp fl false (es.take k)).out ++ [x]) := Lib.hid (by rw [HKP2.out]; unfold kpStep kpSkip; rw [HSEEN.out, HDS.out]; simp )
                have HSN : Hid ((kp fl false (es.take (k + 1))).seen = true) := Lib.hid (by rw [HKP2.out]; unfold kpStep; simp only; rw [HSEEN.out, HDS.out]; rfl)
                obtain ⟨fn, tmps, assign, body, hy, hRd⟩ := hY _ x #[.agg (cellsE q x).toArray] T (fun _ => False) wb (num - 1) HJB.out (by rw [← HST.out]; exact HPF.out) ⟨q, rfl, HFB.out.elt'⟩ (fun k h => ⟨((HTT.out k).1 h).1, by have := ((HTT.out k).1 h).2; have := HTB.out.size; omega⟩) (fun _ h => h.elim) HKB.out.size
                gi_wp2
                rw [show (Value.agg #[.slice q.A q.n q.c, .int .i64 x.seq, .int .i64 x.kind, .slice q.B q.m q.d]) = .agg (cellsE q x).toArray from rfl, hy]
                refine ⟨fun h => (by simp [Fence.wide] at h), ?_⟩
                refine RoundIn.mono hRd ?_
                rintro e W3 hE
                rcases hE with ⟨rfl, hJ3, hk3⟩ | ⟨rfl, hJ3, hk3⟩
                · have HK3 := Lib.hid (HKB.out.trans (hk3.mono fun k hk => .inr hk))
                  have HT3 := Lib.hid (HTB.out.trans (hk3.mono fun k hk => .inl hk))
                  have HJ3 := Lib.hid (show J (kp fl false (es.take (k + 1))).out T (fun _ => False) W3 from by rw [HST.out]; exact hJ3)
                  clear hJ3 hk3 hy hRd
                  gi_wp2
                  go_roundw
                  case rel => exact ⟨k + 1, _, by go_num, by omega, rfl, by rw [HSN.out], HJ3, HK3, HT3, Lib.hid (.inr ⟨gg, j, hj, rfl, HGT.out, Nat.lt_succ_of_lt hjk, by rw [HKY.out, ← HEQ.out], HVJ.out⟩)⟩
                  case measure => simp [intOf]; omega
                · have HJ3 := Lib.hid hJ3
                  clear hJ3 hk3 hy hRd
                  gi_wp2
                  refine bodyPost_ret (results_none rfl _ _ _) rfl ?_
                  exact ⟨⟨_, rfl⟩, .inr ⟨_, T, _, by rw [← HST.out]; exact HPF.out, HJ3.out⟩⟩
            · have hds : decide (x.seq ≤ fl) = false := decide_eq_false hsq
              have HDS := Lib.hid hds
              clear hsq
              have HST : Hid ((kp fl bot (es.take (k + 1))).out = (kp fl bot (es.take k)).out ++ [x]) := Lib.hid (by rw [HKP2.out]; unfold kpStep kpSkip; rw [HSEEN.out, HDS.out]; simp )
              have HSN : Hid ((kp fl bot (es.take (k + 1))).seen = false) := Lib.hid (by rw [HKP2.out]; unfold kpStep; simp only; rw [HSEEN.out, HDS.out]; rfl)
              obtain ⟨fn, tmps, assign, body, hy, hRd⟩ := hY _ x #[.agg (cellsE q x).toArray] T (fun _ => False) wb (num - 1) HJB.out (by rw [← HST.out]; exact HPF.out) ⟨q, rfl, HFB.out.elt'⟩ (fun k h => ⟨((HTT.out k).1 h).1, by have := ((HTT.out k).1 h).2; have := HTB.out.size; omega⟩) (fun _ h => h.elim) HKB.out.size
              gi_wp2
              rw [show (Value.agg #[.slice q.A q.n q.c, .int .i64 x.seq, .int .i64 x.kind, .slice q.B q.m q.d]) = .agg (cellsE q x).toArray from rfl, hy]
              refine ⟨fun h => (by simp [Fence.wide] at h), ?_⟩
              refine RoundIn.mono hRd ?_
              rintro e W3 hE
              rcases hE with ⟨rfl, hJ3, hk3⟩ | ⟨rfl, hJ3, hk3⟩
              · have HK3 := Lib.hid (HKB.out.trans (hk3.mono fun k hk => .inr hk))
                have HT3 := Lib.hid (HTB.out.trans (hk3.mono fun k hk => .inl hk))
                have HJ3 := Lib.hid (show J (kp fl bot (es.take (k + 1))).out T (fun _ => False) W3 from by rw [HST.out]; exact hJ3)
                clear hJ3 hk3 hy hRd
                gi_wp2
                go_roundw
                case rel => exact ⟨k + 1, _, by go_num, by omega, rfl, by rw [HSN.out], HJ3, HK3, HT3, Lib.hid (.inr ⟨gg, j, hj, rfl, HGT.out, Nat.lt_succ_of_lt hjk, by rw [HKY.out, ← HEQ.out], HVJ.out⟩)⟩
                case measure => simp [intOf]; omega
              · have HJ3 := Lib.hid hJ3
                clear hJ3 hk3 hy hRd
                gi_wp2
                refine bodyPost_ret (results_none rfl _ _ _) rfl ?_
                exact ⟨⟨_, rfl⟩, .inr ⟨_, T, _, by rw [← HST.out]; exact HPF.out, HJ3.out⟩⟩
        · have hde : decide (ky = x.key) = false := decide_eq_false hkx
          have HSEEN : Hid (kpSeen (kp fl bot (es.take k)) x = false) := Lib.hid (by unfold kpSeen; rw [HKJ.out, ← HKYE.out, if_neg (by simpa using hkx)])
          clear hkx hkyn
          gi_wp2
          rw [← hwb]
          clear hwb hxa d0 d1 d2 d3
          refine ⟨trivial, fun h => (by simp [Fence.wide] at h), ?_⟩
          refine (callsIn_wide.2 (bequal_any _ _ _ _ _ _ ky x.key _ HKR.out HRK.out)).mono ?_
          rintro e w4 ⟨rfl, rfl⟩
          by_cases hsq : x.seq ≤ fl
          · have hds : decide (x.seq ≤ fl) = true := decide_eq_true hsq
            have HDS := Lib.hid hds
            clear hsq
            cases hb : bot with
            | true =>
              subst hb
              by_cases hkd : x.kind = 2
              · have hdk : (x.kind == 2) = true := by simp [hkd]
                have HDK : Hid (decide (x.kind = 2) = true) := Lib.hid (decide_eq_true hkd)
                clear hkd
                have HST : Hid ((kp fl true (es.take (k + 1))).out = (kp fl true (es.take k)).out) := Lib.hid (by rw [HKP2.out]; unfold kpStep kpSkip; rw [HSEEN.out, HDS.out]; simp [HDK.out])
                have HSN : Hid ((kp fl true (es.take (k + 1))).seen = true) := Lib.hid (by rw [HKP2.out]; unfold kpStep; simp only; rw [HSEEN.out, HDS.out]; rfl)
                gi_wp2
                go_roundw
                case rel => exact ⟨k + 1, _, by go_num, by omega, rfl, by rw [HSN.out], Lib.hid (by rw [HST.out]; exact HJB.out), HKB, HTB, Lib.hid (.inr ⟨gg, k, hkn, rfl, HGT.out, Nat.lt_succ_self k, by rw [HKY.out, HXK.out], HD0.out⟩)⟩
                case measure => simp [intOf]; omega
              · have hdk : (x.kind == 2) = false := by simp [hkd]
                have HDK : Hid (decide (x.kind = 2) = false) := Lib.hid (decide_eq_false hkd)
                clear hkd
                have HST : Hid ((kp fl true (es.take (k + 1))).out = (kp fl true (es.take k)).out ++ [x]) := Lib.hid (by rw [HKP2.out]; unfold kpStep kpSkip; rw [HSEEN.out, HDS.out]; simp [HDK.out])
                have HSN : Hid ((kp fl true (es.take (k + 1))).seen = true) := Lib.hid (by rw [HKP2.out]; unfold kpStep; simp only; rw [HSEEN.out, HDS.out]; rfl)
                obtain ⟨fn, tmps, assign, body, hy, hRd⟩ := hY _ x #[.agg (cellsE q x).toArray] T (fun _ => False) wb (num - 1) HJB.out (by rw [← HST.out]; exact HPF.out) ⟨q, rfl, HFB.out.elt'⟩ (fun k h => ⟨((HTT.out k).1 h).1, by have := ((HTT.out k).1 h).2; have := HTB.out.size; omega⟩) (fun _ h => h.elim) HKB.out.size
                gi_wp2
                rw [show (Value.agg #[.slice q.A q.n q.c, .int .i64 x.seq, .int .i64 x.kind, .slice q.B q.m q.d]) = .agg (cellsE q x).toArray from rfl, hy]
                refine ⟨fun h => (by simp [Fence.wide] at h), ?_⟩
                refine RoundIn.mono hRd ?_
                rintro e W3 hE
                rcases hE with ⟨rfl, hJ3, hk3⟩ | ⟨rfl, hJ3, hk3⟩
                · have HK3 := Lib.hid (HKB.out.trans (hk3.mono fun k hk => .inr hk))
                  have HT3 := Lib.hid (HTB.out.trans (hk3.mono fun k hk => .inl hk))
                  have HJ3 := Lib.hid (show J (kp fl true (es.take (k + 1))).out T (fun _ => False) W3 from by rw [HST.out]; exact hJ3)
                  clear hJ3 hk3 hy hRd
                  gi_wp2
                  go_roundw
                  case rel => exact ⟨k + 1, _, by go_num, by omega, rfl, by rw [HSN.out], HJ3, HK3, HT3, Lib.hid (.inr ⟨gg, k, hkn, rfl, HGT.out, Nat.lt_succ_self k, by rw [HKY.out, HXK.out], HD0.out⟩)⟩
                  case measure => simp [intOf]; omega
                · have HJ3 := Lib.hid hJ3
                  clear hJ3 hk3 hy hRd
                  gi_wp2
                  refine bodyPost_ret (results_none rfl _ _ _) rfl ?_
                  exact ⟨⟨_, rfl⟩, .inr ⟨_, T, _, by rw [← HST.out]; exact HPF.out, HJ3.out⟩⟩
            | false =>
              subst hb
              have HST : Hid ((kp fl false (es.take (k + 1))).out = (kp fl false (es.take k)).out ++ [x]) := Lib.hid (by rw [HKP2.out]; unfold kpStep kpSkip; rw [HSEEN.out, HDS.out]; simp )
              have HSN : Hid ((kp fl false (es.take (k + 1))).seen = true) := Lib.hid (by rw [HKP2.out]; unfold kpStep; simp only; rw [HSEEN.out, HDS.out]; rfl)
              obtain ⟨fn, tmps, assign, body, hy, hRd⟩ := hY _ x #[.agg (cellsE q x).toArray] T (fun _ => False) wb (num - 1) HJB.out (by rw [← HST.out]; exact HPF.out) ⟨q, rfl, HFB.out.elt'⟩ (fun k h => ⟨((HTT.out k).1 h).1, by have := ((HTT.out k).1 h).2; have := HTB.out.size; omega⟩) (fun _ h => h.elim) HKB.out.size
              gi_wp2
              rw [show (Value.agg #[.slice q.A q.n q.c, .int .i64 x.seq, .int .i64 x.kind, .slice q.B q.m q.d]) = .agg (cellsE q x).toArray from rfl, hy]
              refine ⟨fun h => (by simp [Fence.wide] at h), ?_⟩
              refine RoundIn.mono hRd ?_
              rintro e W3 hE
              rcases hE with ⟨rfl, hJ3, hk3⟩ | ⟨rfl, hJ3, hk3⟩
              · have HK3 := Lib.hid (HKB.out.trans (hk3.mono fun k hk => .inr hk))
                have HT3 := Lib.hid (HTB.out.trans (hk3.mono fun k hk => .inl hk))
                have HJ3 := Lib.hid (show J (kp fl false (es.take (k + 1))).out T (fun _ => False) W3 from by rw [HST.out]; exact hJ3)
                clear hJ3 hk3 hy hRd
                gi_wp2
                go_roundw
                case rel => exact ⟨k + 1, _, by go_num, by omega, rfl, by rw [HSN.out], HJ3, HK3, HT3, Lib.hid (.inr ⟨gg, k, hkn, rfl, HGT.out, Nat.lt_succ_self k, by rw [HKY.out, HXK.out], HD0.out⟩)⟩
                case measure => simp [intOf]; omega
              · have HJ3 := Lib.hid hJ3
                clear hJ3 hk3 hy hRd
                gi_wp2
                refine bodyPost_ret (results_none rfl _ _ _) rfl ?_
                exact ⟨⟨_, rfl⟩, .inr ⟨_, T, _, by rw [← HST.out]; exact HPF.out, HJ3.out⟩⟩
          · have hds : decide (x.seq ≤ fl) = false := decide_eq_false hsq
            have HDS := Lib.hid hds
            clear hsq
            have HST : Hid ((kp fl bot (es.take (k + 1))).out = (kp fl bot (es.take k)).out ++ [x]) := Lib.hid (by rw [HKP2.out]; unfold kpStep kpSkip; rw [HSEEN.out, HDS.out]; simp )
            have HSN : Hid ((kp fl bot (es.take (k + 1))).seen = false) := Lib.hid (by rw [HKP2.out]; unfold kpStep; simp only; rw [HSEEN.out, HDS.out]; rfl)
            obtain ⟨fn, tmps, assign, body, hy, hRd⟩ := hY _ x #[.agg (cellsE q x).toArray] T (fun _ => False) wb (num - 1) HJB.out (by rw [← HST.out]; exact HPF.out) ⟨q, rfl, HFB.out.elt'⟩ (fun k h => ⟨((HTT.out k).1 h).1, by have := ((HTT.out k).1 h).2; have := HTB.out.size; omega⟩) (fun _ h => h.elim) HKB.out.size
            gi_wp2
            rw [show (Value.agg #[.slice q.A q.n q.c, .int .i64 x.seq, .int .i64 x.kind, .slice q.B q.m q.d]) = .agg (cellsE q x).toArray from rfl, hy]
            refine ⟨fun h => (by simp [Fence.wide] at h), ?_⟩
            refine RoundIn.mono hRd ?_
            rintro e W3 hE
            rcases hE with ⟨rfl, hJ3, hk3⟩ | ⟨rfl, hJ3, hk3⟩
            · have HK3 := Lib.hid (HKB.out.trans (hk3.mono fun k hk => .inr hk))
              have HT3 := Lib.hid (HTB.out.trans (hk3.mono fun k hk => .inl hk))
              have HJ3 := Lib.hid (show J (kp fl bot (es.take (k + 1))).out T (fun _ => False) W3 from by rw [HST.out]; exact hJ3)
              clear hJ3 hk3 hy hRd
              gi_wp2
              go_roundw
              case rel => exact ⟨k + 1, _, by go_num, by omega, rfl, by rw [HSN.out], HJ3, HK3, HT3, Lib.hid (.inr ⟨gg, k, hkn, rfl, HGT.out, Nat.lt_succ_self k, by rw [HKY.out, HXK.out], HD0.out⟩)⟩
              case measure => simp [intOf]; omega
            · have HJ3 := Lib.hid hJ3
              clear hJ3 hk3 hy hRd
              gi_wp2
              refine bodyPost_ret (results_none rfl _ _ _) rfl ?_
              exact ⟨⟨_, rfl⟩, .inr ⟨_, T, _, by rw [← HST.out]; exact HPF.out, HJ3.out⟩⟩

end Go.Proofs.Ytmmoopioiheleaa
