/- merge.Seen's iterator of pairs, of entries whose keys are not empty. Conditions: the inner iterator's contract. -/
import Derived.Test.YtmmoopioiheleaaMgK
namespace Go.Proofs.Ytmmoopioiheleaa
set_option linter.unusedSimpArgs false
set_option linter.unusedVariables false
open Go.RowKit Go.Shelf
attribute [local go_sem] Oper.semAt_some

def snStep (sq : Int) (s : List (Bs × Bs) × Option Bs) (x : Ent) : List (Bs × Bs) × Option Bs := if sq < x.seq ∨ s.2 = some x.key then s else (if x.kind = 1 then s.1 ++ [(x.key, x.val)] else s.1, some x.key)
def sn (sq : Int) (l : List Ent) : List (Bs × Bs) × Option Bs := l.foldl (snStep sq) ([], none)
theorem sn_take (sq : Int) {es : List Ent} {k : Nat} (h : k < es.length) : sn sq (es.take (k + 1)) = snStep sq (sn sq (es.take k)) es[k] := by
  unfold sn
  rw [List.take_succ_eq_append_getElem h, List.foldl_append]
  rfl
theorem snStep_pre (sq : Int) (s : List (Bs × Bs) × Option Bs) (x : Ent) : s.1 <+: (snStep sq s x).1 := by
  unfold snStep
  split
  · exact List.prefix_refl _
  · simp only
    split
    · exact List.prefix_append _ _
    · exact List.prefix_refl _
theorem sn_out (sq : Int) {es : List Ent} (k : Nat) : (sn sq (es.take k)).1 <+: (sn sq es).1 := by
  conv => rhs; rw [← List.take_append_drop k es]
  unfold sn
  rw [List.foldl_append]
  generalize List.foldl (snStep sq) ([], none) (es.take k) = s
  generalize es.drop k = r
  induction r generalizing s with
  | nil => exact List.prefix_refl _
  | cons x r ih => exact (snStep_pre sq s x).trans (ih _)
theorem KpK.up {es : List Ent} {Al : Option Addr} {T : Nat → Prop} {w1 : World} {k : Nat} {key : Option Bs} {v : Value} (h : KpK es Al T w1 k key v) : KpK es Al T w1 (k + 1) key v := by
  rcases h with h | ⟨gg, j, hj, h1, h2, h3, h4, h5⟩
  · exact .inl h
  · exact .inr ⟨gg, j, hj, h1, h2, Nat.lt_succ_of_lt h3, h4, h5⟩

/-- What is handed over: a pair whose bytes lie in blocks of bytes. -/
def OkP (x : Bs × Bs) (vs : Array Value) (_ : Nat) (_ : Nat → Prop) (W : World) : Prop := ∃ A n c B m d, vs = #[.agg #[.slice A n c, .slice B m d]] ∧ (∃ b, OwnB W b (.slice A n c) x.1) ∧ (∃ b, OwnB W b (.slice B m d) x.2)
/-- From the world w on the function value goes over the pairs ps. -/
def IterP (gf : Nat) (lb : Array Value) (ps : List (Bs × Bs)) (w : World) : Prop :=
  (∀ args w, (callFunc gf args).run Try.prog w = .ok (.enter gf args) w) ∧ ∀ (W : World), Ext w W → ∀ (S : Nat → Prop) (W' : World), (∀ k, S k → W.heap.size ≤ k) → Ext W W' → SeqM Try.prog gf lb OkP S ps W'
theorem IterP.ext {gf : Nat} {lb : Array Value} {ps : List (Bs × Bs)} {w w' : World} (h : IterP gf lb ps w) (e : Ext w w') : IterP gf lb ps w' := ⟨h.1, fun W hW => h.2 W (e.trans hW)⟩
theorem two_ways {e : Ending} {A B A' B' : Prop} (h : (e = .returned (.bool true) ∧ A ∧ B) ∨ (e = .returned (.bool false) ∧ A' ∧ B')) : ∃ b : Bool, e = .returned (.bool b) ∧ ((b = true ∧ A ∧ B) ∨ (b = false ∧ A' ∧ B')) := by
  rcases h with ⟨h1, h2⟩ | ⟨h1, h2⟩
  · exact ⟨true, h1, .inl ⟨rfl, h2⟩⟩
  · exact ⟨false, h1, .inr ⟨rfl, h2⟩⟩

theorem seen_any (gf : Nat) (lb : Array Value) (sq : Int) (w : World) :
    Calls Try.prog 18 #[.func (.func gf) #[] lb, .int .i64 sq] w fun e w' => e = .returned (.func (.func 32) #[] #[.pointer (some ⟨w.heap.size, 0, none⟩), .pointer (some ⟨w.heap.size + 1, 0, none⟩)]) ∧
      (w'.cell? ⟨w.heap.size, 0, none⟩ = some (.func (.func gf) #[] lb) ∧ w'.cell? ⟨w.heap.size + 1, 0, none⟩ = some (.int .i64 sq)) ∧ Ext w w' := by
  go_enter Try.func18, Try.ntmps18
  go_wp2
  go_ret
  refine ⟨rfl, ?_, (by with_reducible (repeat (first | exact Ext.rfl_ _ | assumption | refine Ext.drew ?_ | refine Ext.drewN ?_ _ | refine Ext.alloc ?_ _ | refine Ext.trans ?_ (by assumption))))⟩
  obtain ⟨h1, h2⟩ := two_new w (.cells #[.func (.func gf) #[] lb] 28) (.cells #[.int .i64 sq] 2)
  exact ⟨by unfold World.cell?; simp only [h1]; rfl, by unfold World.cell?; simp only [h2]; rfl⟩

set_option maxRecDepth 100000 in
set_option maxHeartbeats 8000000 in
theorem seen_iter (gf : Nat) (lb : Array Value) (es : List Ent) (sq : Int) (g1 g2 : Nat) (w0 : World) (hin : Iter gf lb es w0) (hes : es.length ≤ 1000000) (hne : ∀ x ∈ es, x.key ≠ [])
    (h1 : w0.cell? ⟨g1, 0, none⟩ = some (.func (.func gf) #[] lb)) (h2 : w0.cell? ⟨g2, 0, none⟩ = some (.int .i64 sq)) :
    IterP 32 #[.pointer (some ⟨g1, 0, none⟩), .pointer (some ⟨g2, 0, none⟩)] (sn sq es).1 w0 := by
  refine ⟨enters_of Try.func32 (by kernel_rfl) rfl, fun Wa hWa S Wb hS hWb => ?_⟩
  intro num l J Jx W hW hJ hJx hY hJ0
  have hX0 := (hWa.trans hWb).trans hW
  have HS : Hid (∀ k, k < w0.heap.size → k < W.heap.size ∧ ¬ S k) := Lib.hid fun k hk => ⟨Nat.lt_of_lt_of_le hk hX0.size, fun h => by have h1 := hS k h; have h2 := hWa.size; omega⟩
  have b1 := hX0.keeps' h1
  have H2 := Lib.hid h2
  have q22 : ∀ (w : World) (a : Option Addr) (n c n' c' : Nat), (binOp .neq 23 (.slice a n c) (.slice none n' c')).run Try.prog w = .ok (.bool (!a.isNone)) w := fun w a n c n' c' => run_neq_slice_nil_any w _ _ a n c n' c' Try.underlying23
  have HNE := Lib.hid hne
  clear h1 h2 hne
  refine callsIn_of_wp Try.func32 rfl trivial ?_ rfl
  simp only [Try.ntmps32, List.size_toArray, List.length_cons, List.length_nil, Nat.reduceAdd, Nat.reduceSub, Array.replicate_succ, Array.replicate_zero, List.push_toArray, List.append_toArray, List.nil_append, List.cons_append]
  gi_wp2
  refine ⟨trivial, fun h => (by simp [Fence.wide] at h), ?_⟩
  refine (callsIn_wide.2 (collect_it hin hX0 hes)).mono ?_
  rintro e w1 ⟨v, rfl, hO, hw1⟩
  obtain ⟨Al, nl, cl, rfl, hcl, hrl, _⟩ := hO.ownL.formN (by unfold B41; omega)
  have hnl : es.length = nl := hrl.1
  subst hnl
  obtain ⟨T, hT⟩ : ∃ T : Nat → Prop, T = fun j => W.heap.size ≤ j ∧ j < w1.heap.size := ⟨_, rfl⟩
  have HO := Lib.hid hO
  have HTT := Lib.hid (fun k => by rw [hT] : ∀ k, T k ↔ W.heap.size ≤ k ∧ k < w1.heap.size)
  have HJ1 : Hid (J [] T (fun _ => False) w1) := Lib.hid (hJ _ _ T _ _ _ w1 hJ0 (Kept.of_ext hw1) (U8.of_ext hw1) (fun _ h => h.elim) (fun k h => .inr ((HTT.out k).1 h).1) (fun _ h => h) (fun _ h => .inl h))
  have HK1 : Hid (Kept (fun j => j < W.heap.size ∧ ¬ S j) W w1) := Lib.hid (Kept.of_ext hw1)
  clear hO hrl hT hw1 b1
  gi_wp2
  gi_loopw [4, 10] (fun vk u wr => ∃ (k : Nat) (uk : Value), u = .int .i64 k ∧ k ≤ es.length ∧ vk = uk ∧ Hid (J (sn sq (es.take k)).1 T (fun _ => False) wr) ∧ Hid (Kept (fun j => j < W.heap.size ∧ ¬ S j) W wr) ∧ Hid (Kept T w1 wr) ∧ Hid (KpK es Al T w1 k (sn sq (es.take k)).2 uk)) (fun _ u _ => es.length - (intOf u).toNat)
  case atStart => exact ⟨0, _, rfl, Nat.zero_le _, rfl, HJ1, HK1, Lib.hid (Kept.rfl_ _ _), Lib.hid (.inl ⟨rfl, rfl⟩)⟩
  case round =>
    obtain ⟨k, uk, rfl, hk, rfl, HJ, HKP, HKT, HKEY⟩ := hrel
    by_cases hkc : k = es.length
    · have HJE := Lib.hid (show J (sn sq es).1 T (fun _ => False) wr from by have := HJ.out; rwa [List.take_of_length_le (by omega)] at this)
      subst hkc
      gi_wp2
      go_end0
      exact ⟨⟨_, rfl⟩, .inl ⟨T, _, HJE.out⟩⟩
    · have hkn : k < es.length := by omega
      have hltc : (k : Int) < (es.length : Int) := by omega
      have HOr := Lib.hid (HO.out.keptHi (HKT.out.mono fun j hj => (HTT.out j).2 hj))
      obtain ⟨gg, cc, q, hvv, _, hgg, _, ⟨d0, d1, d2, d3⟩, hfe⟩ := HOr.out.at_ hkn
      cases hvv
      obtain ⟨x, hx⟩ : ∃ x, x = es[k] := ⟨_, rfl⟩
      rw [← hx] at d1 d2 hfe
      have hg1 : T gg := (HTT.out gg).2 ⟨hgg, (HO.out.lt gg rfl).2⟩
      have HGT := Lib.hid hg1
      have HD0 : Hid (w1.cell? ⟨gg, k * 4, none⟩ = some (.slice q.A q.n q.c)) := Lib.hid ((blk_cell (HKT.out.block gg (HO.out.lt gg rfl).2 hg1)).symm.trans d0)
      have HFE := Lib.hid hfe
      have HXK := Lib.hid hx
      have HXN : Hid (x.key ≠ []) := Lib.hid (by rw [hx]; exact HNE.out _ (List.getElem_mem hkn))
      have xr : Ext w0 wr := HKP.out.ext_of hX0 (fun j hj => HS.out j hj)
      have hwr : IntKind.i64.wrap ((k : Int) + 1) = ((k + 1 : Nat) : Int) := by rw [IntKind.wrap_i64]; omega
      have HSN2 : Hid (sn sq (es.take (k + 1)) = snStep sq (sn sq (es.take k)) x) := Lib.hid (by rw [sn_take sq hkn, hx])
      have HPF : Hid ((sn sq (es.take (k + 1))).1 <+: (sn sq es).1) := Lib.hid (sn_out sq (k + 1))
      clear hfe hx hg1
      obtain ⟨wb, hwb⟩ : ∃ wb, wb = wr.alloc (.cells #[.slice q.A q.n q.c, .int .i64 x.seq, .int .i64 x.kind, .slice q.B q.m q.d] 37) := ⟨_, rfl⟩
      have hxa : Ext wr wb := by rw [hwb]; exact Ext.alloc (Ext.rfl_ _) _
      have hbx := blk1 wr (.cells #[.slice q.A q.n q.c, .int .i64 x.seq, .int .i64 x.kind, .slice q.B q.m q.d] 37)
      rw [← hwb] at hbx
      obtain ⟨r0, r1, r2, r3, _, _, _, _⟩ := box4 hbx (Ext.rfl_ wb)
      have xb := xr.trans hxa
      have HFB := Lib.hid (HFE.out.extF hxa)
      have HJB := Lib.hid (hJ _ _ T _ (fun _ => False) _ wb HJ.out (Kept.of_ext hxa) (U8.of_ext hxa) (fun _ h => h) (fun _ h => .inl h) (fun _ h => h) (fun _ h => .inl h))
      have HKB := Lib.hid (HKP.out.then_ hxa)
      have HTB := Lib.hid (HKT.out.then_ hxa)
      have hrk := RdE.parts HFB.out.rd
      have HRK := Lib.hid hrk.1
      have HRV := Lib.hid hrk.2.1
      have hq1 := hrk.2.2.1
      have hq2 := hrk.2.2.2.1
      have b2 := xb.keeps' H2.out
      rw [hwb] at b2
      have HBX := Lib.hid hbx
      have XB := Lib.hid xb
      clear HJ HKP HFE hrk xr hbx xb
      by_cases hsq : sq < x.seq
      · have hds : decide (sq < x.seq) = true := decide_eq_true hsq
        have HSAME : Hid (snStep sq (sn sq (es.take k)) x = sn sq (es.take k)) := Lib.hid (by unfold snStep; rw [if_pos (.inl hsq)])
        clear hsq
        gi_wp2
        all_goals (try (exfalso; rename_i h1 h2; injection h1 with h3; cases h3; done))
        rw [← hwb]
        clear hwb hxa d0 d1 d2 d3
        refine ⟨trivial, ?_⟩
        have HS1 : Hid ((sn sq (es.take (k + 1))).1 = (sn sq (es.take k)).1) := Lib.hid (by rw [HSN2.out, HSAME.out])
        have HS2 : Hid ((sn sq (es.take (k + 1))).2 = (sn sq (es.take k)).2) := Lib.hid (by rw [HSN2.out, HSAME.out])
        gi_wp2
        go_roundw
        case rel => exact ⟨k + 1, _, by go_num, by omega, rfl, Lib.hid (by rw [HS1.out]; exact HJB.out), HKB, HTB, Lib.hid (by rw [HS2.out]; exact HKEY.out.up)⟩
        case measure => simp [intOf]; omega
      · have hds : decide (sq < x.seq) = false := decide_eq_false hsq
        have HSQ := Lib.hid hsq
        clear hsq
        rcases HKEY.out with ⟨hk0, hv0⟩ | ⟨gg', j, hj, he, _, hjk, hkj, hvj⟩
        · subst hv0
          have HNEW : Hid (¬ (sq < x.seq ∨ (sn sq (es.take k)).2 = some x.key)) := Lib.hid (by rw [hk0]; rintro (h | h); exact HSQ.out h; cases h)
          clear hk0
          gi_wp2
          rw [← hwb]
          clear hwb hxa d0 d1 d2 d3
          refine ⟨trivial, ?_⟩
          have HKY : Hid ((sn sq (es.take (k + 1))).2 = some x.key) := Lib.hid (by rw [HSN2.out]; unfold snStep; rw [if_neg HNEW.out])
          by_cases hkd : x.kind = 1
          · have hdk : (x.kind == 1) = true := by simp [hkd]
            have HS1 : Hid ((sn sq (es.take (k + 1))).1 = (sn sq (es.take k)).1 ++ [(x.key, x.val)]) := Lib.hid (by rw [HSN2.out]; unfold snStep; rw [if_neg HNEW.out]; simp only; rw [if_pos hkd])
            clear hkd
            gi_wp2
            refine wpIn_region_any (by kernel_rfl) ?_
            (try (change wpAnyIn _ _ _ _ _ _ _ _ _ (World.drew _)))
            refine wpAnyIn_take (i := 0) (oi := ({ dst := some 30, op := Go.Op.fieldAddr 37 (Go.Operand.tmp 6) 2, type := 0, pos := "merge.go:98", after := #[], guard := none } : Go.Oper)) (v := ?v1) rfl rfl (by kernel_rfl) (by kernel_rfl) (by kernel_rfl) (fun _ _ _ h => h) ⟨Or.inl ⟨by rfl, ?hy1⟩, fun _ => rfl⟩ ?rest1
            case hy1 => (intro w; go_simp; (try with_reducible rfl))
            (try simp only [Act.put, List.getElem_toArray, List.getElem_cons_zero, List.getElem_cons_succ, List.setIfInBounds_toArray, List.set_cons_zero, List.set_cons_succ])
            refine wpAnyIn_ready (rs := [1]) (by kernel_rfl) (by simp) ?_
            refine AllReadyIn.cons (o := ({ dst := some 31, op := Go.Op.load 35 (Go.Operand.tmp 30), type := 35, pos := "merge.go:98", after := #[{ on := 0, ground := Go.Ground.data }], guard := none } : Go.Oper)) rfl (fun K hK => ?_) AllReadyIn.nil
            go_simp
            refine hK _ _ ?_
            clear hK K
            (try simp only [Act.put, List.getElem_toArray, List.getElem_cons_zero, List.getElem_cons_succ, List.setIfInBounds_toArray, List.set_cons_zero, List.set_cons_succ])
            refine wpAnyIn_take (i := 2) (oi := ({ dst := some 32, op := Go.Op.binOp Go.BinOp.eql 35 (Go.Operand.tmp 31) (Go.Operand.const (Go.Value.int Go.IntKind.i64 1)) 35, type := 4, pos := "merge.go:98", after := #[{ on := 1, ground := Go.Ground.data }], guard := none } : Go.Oper)) (v := ?v2) rfl rfl (by kernel_rfl) (by kernel_rfl) (by kernel_rfl) (fun _ _ _ h => h) ⟨Or.inl ⟨by rfl, ?hy2⟩, fun _ => rfl⟩ ?rest2
            case hy2 => (intro w; go_simp; (try with_reducible rfl))
            (try simp only [Act.put, List.getElem_toArray, List.getElem_cons_zero, List.getElem_cons_succ, List.setIfInBounds_toArray, List.set_cons_zero, List.set_cons_succ])
            refine wpAnyIn_take (i := 3) (oi := ({ dst := some 33, op := Go.Op.move (Go.Operand.tmp 32), type := 4, pos := "merge.go:98", after := #[{ on := 2, ground := Go.Ground.data }], guard := none } : Go.Oper)) (v := ?v3) rfl rfl (by kernel_rfl) (by kernel_rfl) (by kernel_rfl) (fun _ _ _ h => h) ⟨Or.inl ⟨by rfl, ?hy3⟩, fun _ => rfl⟩ ?rest3
            case hy3 => (intro w; go_simp; (try with_reducible rfl))
            (try simp only [Act.put, List.getElem_toArray, List.getElem_cons_zero, List.getElem_cons_succ, List.setIfInBounds_toArray, List.set_cons_zero, List.set_cons_succ])
            refine wpAnyIn_take (i := 4) (oi := ({ dst := some 34, op := Go.Op.move (Go.Operand.tmp 0), type := 57, pos := "merge.go:98", after := #[{ on := 3, ground := Go.Ground.guard }], guard := some (3, true) } : Go.Oper)) (v := ?v4) rfl rfl (by kernel_rfl) (by kernel_rfl) (by kernel_rfl) (fun _ _ _ h => h) ⟨Or.inl ⟨by rfl, ?hy4⟩, fun _ => rfl⟩ ?rest4
            case hy4 => (intro w; go_simp; (try with_reducible rfl))
            (try simp only [Act.put, List.getElem_toArray, List.getElem_cons_zero, List.getElem_cons_succ, List.setIfInBounds_toArray, List.set_cons_zero, List.set_cons_succ])
            refine wpAnyIn_take (i := 5) (oi := ({ dst := some 35, op := Go.Op.fieldAddr 37 (Go.Operand.tmp 6) 0, type := 0, pos := "merge.go:98", after := #[{ on := 3, ground := Go.Ground.guard }], guard := some (3, true) } : Go.Oper)) (v := ?v5) rfl rfl (by kernel_rfl) (by kernel_rfl) (by kernel_rfl) (fun _ _ _ h => h) ⟨Or.inl ⟨by rfl, ?hy5⟩, fun _ => rfl⟩ ?rest5
            case hy5 => (intro w; go_simp; (try with_reducible rfl))
            (try simp only [Act.put, List.getElem_toArray, List.getElem_cons_zero, List.getElem_cons_succ, List.setIfInBounds_toArray, List.set_cons_zero, List.set_cons_succ])
            refine wpAnyIn_take (i := 8) (oi := ({ dst := some 38, op := Go.Op.fieldAddr 37 (Go.Operand.tmp 6) 3, type := 0, pos := "merge.go:98", after := #[{ on := 3, ground := Go.Ground.guard }], guard := some (3, true) } : Go.Oper)) (v := ?v6) rfl rfl (by kernel_rfl) (by kernel_rfl) (by kernel_rfl) (fun _ _ _ h => h) ⟨Or.inl ⟨by rfl, ?hy6⟩, fun _ => rfl⟩ ?rest6
            case hy6 => (intro w; go_simp; (try with_reducible rfl))
            (try simp only [Act.put, List.getElem_toArray, List.getElem_cons_zero, List.getElem_cons_succ, List.setIfInBounds_toArray, List.set_cons_zero, List.set_cons_succ])
            refine wpAnyIn_ready (rs := [6, 9]) (by kernel_rfl) (by simp) ?_
            refine AllReadyIn.cons (o := ({ dst := some 36, op := Go.Op.load 23 (Go.Operand.tmp 35), type := 23, pos := "merge.go:98", after := #[{ on := 5, ground := Go.Ground.data }, { on := 3, ground := Go.Ground.guard }], guard := some (3, true) } : Go.Oper)) rfl (fun K hK => ?one7) ?more7
            case' one7 =>
              go_simp
              refine hK _ _ ?_
              clear hK K
              (try simp only [Act.put, List.getElem_toArray, List.getElem_cons_zero, List.getElem_cons_succ, List.setIfInBounds_toArray, List.set_cons_zero, List.set_cons_succ])
              refine wpAnyIn_ready (rs := [7, 9]) (by kernel_rfl) (by simp) ?_
              refine AllReadyIn.cons (o := ({ dst := some 37, op := Go.Op.call { callee := Go.Callee.value (Go.Operand.func 33), args := #[Go.Operand.tmp 36], argTypes := #[23] }, type := 23, pos := "merge.go:98", after := #[{ on := 6, ground := Go.Ground.data }, { on := 3, ground := Go.Ground.chain }, { on := 3, ground := Go.Ground.guard }], guard := some (3, true) } : Go.Oper)) rfl (fun K hK => ?one8) ?more8
              case' one8 =>
                go_simp
                refine ⟨trivial, fun h => (by simp [Fence.wide] at h), ?_⟩; refine (callsIn_wide.2 (bclone_any _ _ _ x.key _ (HRK.out.ext (by with_reducible (repeat (first | exact Ext.rfl_ _ | assumption | refine Ext.drew ?_ | refine Ext.drewN ?_ _ | refine Ext.alloc ?_ _ | refine Ext.trans ?_ (by assumption))))) hq1)).mono ?_; rintro e w6 ⟨v6, rfl, hv6, _, hw6⟩; obtain ⟨A6, c6, rfl, _⟩ := hv6.rd; have o6 := OwnB.of_copyB hv6; have X6 := Lib.hid (show Ext wb w6 from (by with_reducible (repeat (first | exact Ext.rfl_ _ | assumption | refine Ext.drew ?_ | refine Ext.drewN ?_ _ | refine Ext.alloc ?_ _ | refine Ext.trans ?_ (by assumption))))); obtain ⟨r0, r1, r2, r3, _, _, _, _⟩ := box4 HBX.out X6.out
                refine hK _ _ ?_
                clear hK K
                (try simp only [Act.put, List.getElem_toArray, List.getElem_cons_zero, List.getElem_cons_succ, List.setIfInBounds_toArray, List.set_cons_zero, List.set_cons_succ])
                refine wpAnyIn_ready (rs := [9]) (by kernel_rfl) (by simp) ?_
                refine AllReadyIn.cons (o := ({ dst := some 39, op := Go.Op.load 23 (Go.Operand.tmp 38), type := 23, pos := "merge.go:98", after := #[{ on := 8, ground := Go.Ground.data }, { on := 3, ground := Go.Ground.guard }], guard := some (3, true) } : Go.Oper)) rfl (fun K hK => ?_) AllReadyIn.nil
                go_simp
                refine hK _ _ ?_
                clear hK K
                (try simp only [Act.put, List.getElem_toArray, List.getElem_cons_zero, List.getElem_cons_succ, List.setIfInBounds_toArray, List.set_cons_zero, List.set_cons_succ])
                refine wpAnyIn_ready (rs := [10]) (by kernel_rfl) (by simp) ?_
                refine AllReadyIn.cons (o := ({ dst := some 40, op := Go.Op.call { callee := Go.Callee.value (Go.Operand.func 33), args := #[Go.Operand.tmp 39], argTypes := #[23] }, type := 23, pos := "merge.go:98", after := #[{ on := 9, ground := Go.Ground.data }, { on := 7, ground := Go.Ground.chain }, { on := 3, ground := Go.Ground.guard }], guard := some (3, true) } : Go.Oper)) rfl (fun K hK => ?_) AllReadyIn.nil
                go_simp
                refine ⟨trivial, fun h => (by simp [Fence.wide] at h), ?_⟩; refine (callsIn_wide.2 (bclone_any _ _ _ x.val _ (HRV.out.ext (X6.out.trans (by with_reducible (repeat (first | exact Ext.rfl_ _ | assumption | refine Ext.drew ?_ | refine Ext.drewN ?_ _ | refine Ext.alloc ?_ _ | refine Ext.trans ?_ (by assumption)))))) hq2)).mono ?_; rintro e w7 ⟨v7, rfl, hv7, _, hw7⟩; obtain ⟨A7, c7, rfl, _⟩ := hv7.rd; have o7 := OwnB.of_copyB hv7; have X7 := Lib.hid (show Ext wb w7 from X6.out.trans (by with_reducible (repeat (first | exact Ext.rfl_ _ | assumption | refine Ext.drew ?_ | refine Ext.drewN ?_ _ | refine Ext.alloc ?_ _ | refine Ext.trans ?_ (by assumption))))); have P67 := (show Ext w6 w7 from (by with_reducible (repeat (first | exact Ext.rfl_ _ | assumption | refine Ext.drew ?_ | refine Ext.drewN ?_ _ | refine Ext.alloc ?_ _ | refine Ext.trans ?_ (by assumption)))))
                refine hK _ _ ?_
                clear hK K
                (try simp only [Act.put, List.getElem_toArray, List.getElem_cons_zero, List.getElem_cons_succ, List.setIfInBounds_toArray, List.set_cons_zero, List.set_cons_succ])
                refine wpAnyIn_ready (rs := [11]) (by kernel_rfl) (by simp) ?_
                refine AllReadyIn.cons (o := ({ dst := some 41, op := Go.Op.build 47 #[(0, Go.Operand.tmp 37), (1, Go.Operand.tmp 40)], type := 47, pos := "merge.go:98", after := #[{ on := 7, ground := Go.Ground.data }, { on := 10, ground := Go.Ground.data }, { on := 3, ground := Go.Ground.guard }], guard := some (3, true) } : Go.Oper)) rfl (fun K hK => ?_) AllReadyIn.nil
                go_simp
                refine hK _ _ ?_
                clear hK K
                (try simp only [Act.put, List.getElem_toArray, List.getElem_cons_zero, List.getElem_cons_succ, List.setIfInBounds_toArray, List.set_cons_zero, List.set_cons_succ])
                refine wpAnyIn_ready (rs := [12]) (by kernel_rfl) (by simp) ?_
                refine AllReadyIn.cons (o := ({ dst := some 42, op := Go.Op.call { callee := Go.Callee.value (Go.Operand.tmp 34), args := #[Go.Operand.tmp 41], argTypes := #[47] }, type := 4, pos := "merge.go:98", after := #[{ on := 4, ground := Go.Ground.data }, { on := 11, ground := Go.Ground.data }, { on := 10, ground := Go.Ground.chain }, { on := 3, ground := Go.Ground.guard }], guard := some (3, true) } : Go.Oper)) rfl (fun K hK => ?_) AllReadyIn.nil
                go_simp
                obtain ⟨fn, tmps, assign, body, hy, hRd⟩ := hY _ (x.key, x.val) #[.agg #[.slice A6 x.key.length c6, .slice A7 x.val.length c7]] T (fun _ => False) w7 (num - 1) (hJ _ _ T _ (fun _ => False) _ w7 HJB.out (Kept.of_ext X7.out) (U8.of_ext X7.out) (fun _ h => h) (fun _ h => .inl h) (fun _ h => h) (fun _ h => .inl h)) (by rw [← HS1.out]; exact HPF.out) ⟨A6, _, c6, A7, _, c7, rfl, ⟨_, o6.ext P67⟩, ⟨_, o7⟩⟩ (fun k h => ⟨((HTT.out k).1 h).1, by have := ((HTT.out k).1 h).2; have := HTB.out.size; have := X7.out.size; omega⟩) (fun _ h => h.elim) (Nat.le_trans HKB.out.size X7.out.size); rw [hy]; refine ⟨fun h => (by simp [Fence.wide] at h), ?_⟩; refine RoundIn.mono hRd ?_; rintro e W3 hE; obtain ⟨bb, rfl, hB⟩ := two_ways hE
                refine hK _ _ ?_
                clear hK K
                (try simp only [Act.put, List.getElem_toArray, List.getElem_cons_zero, List.getElem_cons_succ, List.setIfInBounds_toArray, List.set_cons_zero, List.set_cons_succ])
                refine wpAnyIn_take (i := 13) (oi := ({ dst := some 43, op := Go.Op.unOp Go.UnOp.not 4 (Go.Operand.tmp 42), type := 4, pos := "merge.go:98", after := #[{ on := 12, ground := Go.Ground.data }, { on := 3, ground := Go.Ground.guard }], guard := some (3, true) } : Go.Oper)) (v := ?v9) rfl rfl (by kernel_rfl) (by kernel_rfl) (by kernel_rfl) (fun _ _ _ h => h) ⟨Or.inl ⟨by rfl, ?hy9⟩, fun _ => rfl⟩ ?rest9
                case hy9 => (intro w; go_simp; (try with_reducible rfl))
                (try simp only [Act.put, List.getElem_toArray, List.getElem_cons_zero, List.getElem_cons_succ, List.setIfInBounds_toArray, List.set_cons_zero, List.set_cons_succ])
                refine wpAnyIn_take (i := 14) (oi := ({ dst := some 44, op := Go.Op.pick (Go.Operand.tmp 33) (Go.Operand.tmp 43) (Go.Operand.const (Go.Value.bool false)), type := 4, pos := "merge.go:98", after := #[{ on := 3, ground := Go.Ground.data }, { on := 13, ground := Go.Ground.data }], guard := none } : Go.Oper)) (v := ?v10) rfl rfl (by kernel_rfl) (by kernel_rfl) (by kernel_rfl) (fun _ _ _ h => h) ⟨Or.inl ⟨by rfl, ?hy10⟩, fun _ => rfl⟩ ?rest10
                case hy10 => (intro w; go_simp; (try with_reducible rfl))
                (try simp only [Act.put, List.getElem_toArray, List.getElem_cons_zero, List.getElem_cons_succ, List.setIfInBounds_toArray, List.set_cons_zero, List.set_cons_succ])
                refine wpAnyIn_done (by kernel_rfl) ?_ _
              case' more8 =>
                refine AllReadyIn.cons (o := ({ dst := some 39, op := Go.Op.load 23 (Go.Operand.tmp 38), type := 23, pos := "merge.go:98", after := #[{ on := 8, ground := Go.Ground.data }, { on := 3, ground := Go.Ground.guard }], guard := some (3, true) } : Go.Oper)) rfl (fun K hK => ?_) AllReadyIn.nil
                go_simp
                refine hK _ _ ?_
                clear hK K
                (try simp only [Act.put, List.getElem_toArray, List.getElem_cons_zero, List.getElem_cons_succ, List.setIfInBounds_toArray, List.set_cons_zero, List.set_cons_succ])
                refine wpAnyIn_ready (rs := [7]) (by kernel_rfl) (by simp) ?_
                refine AllReadyIn.cons (o := ({ dst := some 37, op := Go.Op.call { callee := Go.Callee.value (Go.Operand.func 33), args := #[Go.Operand.tmp 36], argTypes := #[23] }, type := 23, pos := "merge.go:98", after := #[{ on := 6, ground := Go.Ground.data }, { on := 3, ground := Go.Ground.chain }, { on := 3, ground := Go.Ground.guard }], guard := some (3, true) } : Go.Oper)) rfl (fun K hK => ?_) AllReadyIn.nil
                go_simp
                refine ⟨trivial, fun h => (by simp [Fence.wide] at h), ?_⟩; refine (callsIn_wide.2 (bclone_any _ _ _ x.key _ (HRK.out.ext (by with_reducible (repeat (first | exact Ext.rfl_ _ | assumption | refine Ext.drew ?_ | refine Ext.drewN ?_ _ | refine Ext.alloc ?_ _ | refine Ext.trans ?_ (by assumption))))) hq1)).mono ?_; rintro e w6 ⟨v6, rfl, hv6, _, hw6⟩; obtain ⟨A6, c6, rfl, _⟩ := hv6.rd; have o6 := OwnB.of_copyB hv6; have X6 := Lib.hid (show Ext wb w6 from (by with_reducible (repeat (first | exact Ext.rfl_ _ | assumption | refine Ext.drew ?_ | refine Ext.drewN ?_ _ | refine Ext.alloc ?_ _ | refine Ext.trans ?_ (by assumption))))); obtain ⟨r0, r1, r2, r3, _, _, _, _⟩ := box4 HBX.out X6.out
                refine hK _ _ ?_
                clear hK K
                (try simp only [Act.put, List.getElem_toArray, List.getElem_cons_zero, List.getElem_cons_succ, List.setIfInBounds_toArray, List.set_cons_zero, List.set_cons_succ])
                refine wpAnyIn_ready (rs := [10]) (by kernel_rfl) (by simp) ?_
                refine AllReadyIn.cons (o := ({ dst := some 40, op := Go.Op.call { callee := Go.Callee.value (Go.Operand.func 33), args := #[Go.Operand.tmp 39], argTypes := #[23] }, type := 23, pos := "merge.go:98", after := #[{ on := 9, ground := Go.Ground.data }, { on := 7, ground := Go.Ground.chain }, { on := 3, ground := Go.Ground.guard }], guard := some (3, true) } : Go.Oper)) rfl (fun K hK => ?_) AllReadyIn.nil
                go_simp
                refine ⟨trivial, fun h => (by simp [Fence.wide] at h), ?_⟩; refine (callsIn_wide.2 (bclone_any _ _ _ x.val _ (HRV.out.ext (X6.out.trans (by with_reducible (repeat (first | exact Ext.rfl_ _ | assumption | refine Ext.drew ?_ | refine Ext.drewN ?_ _ | refine Ext.alloc ?_ _ | refine Ext.trans ?_ (by assumption)))))) hq2)).mono ?_; rintro e w7 ⟨v7, rfl, hv7, _, hw7⟩; obtain ⟨A7, c7, rfl, _⟩ := hv7.rd; have o7 := OwnB.of_copyB hv7; have X7 := Lib.hid (show Ext wb w7 from X6.out.trans (by with_reducible (repeat (first | exact Ext.rfl_ _ | assumption | refine Ext.drew ?_ | refine Ext.drewN ?_ _ | refine Ext.alloc ?_ _ | refine Ext.trans ?_ (by assumption))))); have P67 := (show Ext w6 w7 from (by with_reducible (repeat (first | exact Ext.rfl_ _ | assumption | refine Ext.drew ?_ | refine Ext.drewN ?_ _ | refine Ext.alloc ?_ _ | refine Ext.trans ?_ (by assumption)))))
                refine hK _ _ ?_
                clear hK K
                (try simp only [Act.put, List.getElem_toArray, List.getElem_cons_zero, List.getElem_cons_succ, List.setIfInBounds_toArray, List.set_cons_zero, List.set_cons_succ])
                refine wpAnyIn_ready (rs := [11]) (by kernel_rfl) (by simp) ?_
                refine AllReadyIn.cons (o := ({ dst := some 41, op := Go.Op.build 47 #[(0, Go.Operand.tmp 37), (1, Go.Operand.tmp 40)], type := 47, pos := "merge.go:98", after := #[{ on := 7, ground := Go.Ground.data }, { on := 10, ground := Go.Ground.data }, { on := 3, ground := Go.Ground.guard }], guard := some (3, true) } : Go.Oper)) rfl (fun K hK => ?_) AllReadyIn.nil
                go_simp
                refine hK _ _ ?_
                clear hK K
                (try simp only [Act.put, List.getElem_toArray, List.getElem_cons_zero, List.getElem_cons_succ, List.setIfInBounds_toArray, List.set_cons_zero, List.set_cons_succ])
                refine wpAnyIn_ready (rs := [12]) (by kernel_rfl) (by simp) ?_
                refine AllReadyIn.cons (o := ({ dst := some 42, op := Go.Op.call { callee := Go.Callee.value (Go.Operand.tmp 34), args := #[Go.Operand.tmp 41], argTypes := #[47] }, type := 4, pos := "merge.go:98", after := #[{ on := 4, ground := Go.Ground.data }, { on := 11, ground := Go.Ground.data }, { on := 10, ground := Go.Ground.chain }, { on := 3, ground := Go.Ground.guard }], guard := some (3, true) } : Go.Oper)) rfl (fun K hK => ?_) AllReadyIn.nil
                go_simp
                obtain ⟨fn, tmps, assign, body, hy, hRd⟩ := hY _ (x.key, x.val) #[.agg #[.slice A6 x.key.length c6, .slice A7 x.val.length c7]] T (fun _ => False) w7 (num - 1) (hJ _ _ T _ (fun _ => False) _ w7 HJB.out (Kept.of_ext X7.out) (U8.of_ext X7.out) (fun _ h => h) (fun _ h => .inl h) (fun _ h => h) (fun _ h => .inl h)) (by rw [← HS1.out]; exact HPF.out) ⟨A6, _, c6, A7, _, c7, rfl, ⟨_, o6.ext P67⟩, ⟨_, o7⟩⟩ (fun k h => ⟨((HTT.out k).1 h).1, by have := ((HTT.out k).1 h).2; have := HTB.out.size; have := X7.out.size; omega⟩) (fun _ h => h.elim) (Nat.le_trans HKB.out.size X7.out.size); rw [hy]; refine ⟨fun h => (by simp [Fence.wide] at h), ?_⟩; refine RoundIn.mono hRd ?_; rintro e W3 hE; obtain ⟨bb, rfl, hB⟩ := two_ways hE
                refine hK _ _ ?_
                clear hK K
                (try simp only [Act.put, List.getElem_toArray, List.getElem_cons_zero, List.getElem_cons_succ, List.setIfInBounds_toArray, List.set_cons_zero, List.set_cons_succ])
                refine wpAnyIn_take (i := 13) (oi := ({ dst := some 43, op := Go.Op.unOp Go.UnOp.not 4 (Go.Operand.tmp 42), type := 4, pos := "merge.go:98", after := #[{ on := 12, ground := Go.Ground.data }, { on := 3, ground := Go.Ground.guard }], guard := some (3, true) } : Go.Oper)) (v := ?v11) rfl rfl (by kernel_rfl) (by kernel_rfl) (by kernel_rfl) (fun _ _ _ h => h) ⟨Or.inl ⟨by rfl, ?hy11⟩, fun _ => rfl⟩ ?rest11
                case hy11 => (intro w; go_simp; (try with_reducible rfl))
                (try simp only [Act.put, List.getElem_toArray, List.getElem_cons_zero, List.getElem_cons_succ, List.setIfInBounds_toArray, List.set_cons_zero, List.set_cons_succ])
                refine wpAnyIn_take (i := 14) (oi := ({ dst := some 44, op := Go.Op.pick (Go.Operand.tmp 33) (Go.Operand.tmp 43) (Go.Operand.const (Go.Value.bool false)), type := 4, pos := "merge.go:98", after := #[{ on := 3, ground := Go.Ground.data }, { on := 13, ground := Go.Ground.data }], guard := none } : Go.Oper)) (v := ?v12) rfl rfl (by kernel_rfl) (by kernel_rfl) (by kernel_rfl) (fun _ _ _ h => h) ⟨Or.inl ⟨by rfl, ?hy12⟩, fun _ => rfl⟩ ?rest12
                case hy12 => (intro w; go_simp; (try with_reducible rfl))
                (try simp only [Act.put, List.getElem_toArray, List.getElem_cons_zero, List.getElem_cons_succ, List.setIfInBounds_toArray, List.set_cons_zero, List.set_cons_succ])
                refine wpAnyIn_done (by kernel_rfl) ?_ _
            case' more7 =>
              refine AllReadyIn.cons (o := ({ dst := some 39, op := Go.Op.load 23 (Go.Operand.tmp 38), type := 23, pos := "merge.go:98", after := #[{ on := 8, ground := Go.Ground.data }, { on := 3, ground := Go.Ground.guard }], guard := some (3, true) } : Go.Oper)) rfl (fun K hK => ?_) AllReadyIn.nil
              go_simp
              refine hK _ _ ?_
              clear hK K
              (try simp only [Act.put, List.getElem_toArray, List.getElem_cons_zero, List.getElem_cons_succ, List.setIfInBounds_toArray, List.set_cons_zero, List.set_cons_succ])
              refine wpAnyIn_ready (rs := [6]) (by kernel_rfl) (by simp) ?_
              refine AllReadyIn.cons (o := ({ dst := some 36, op := Go.Op.load 23 (Go.Operand.tmp 35), type := 23, pos := "merge.go:98", after := #[{ on := 5, ground := Go.Ground.data }, { on := 3, ground := Go.Ground.guard }], guard := some (3, true) } : Go.Oper)) rfl (fun K hK => ?_) AllReadyIn.nil
              go_simp
              refine hK _ _ ?_
              clear hK K
              (try simp only [Act.put, List.getElem_toArray, List.getElem_cons_zero, List.getElem_cons_succ, List.setIfInBounds_toArray, List.set_cons_zero, List.set_cons_succ])
              refine wpAnyIn_ready (rs := [7]) (by kernel_rfl) (by simp) ?_
              refine AllReadyIn.cons (o := ({ dst := some 37, op := Go.Op.call { callee := Go.Callee.value (Go.Operand.func 33), args := #[Go.Operand.tmp 36], argTypes := #[23] }, type := 23, pos := "merge.go:98", after := #[{ on := 6, ground := Go.Ground.data }, { on := 3, ground := Go.Ground.chain }, { on := 3, ground := Go.Ground.guard }], guard := some (3, true) } : Go.Oper)) rfl (fun K hK => ?_) AllReadyIn.nil
              go_simp
              refine ⟨trivial, fun h => (by simp [Fence.wide] at h), ?_⟩; refine (callsIn_wide.2 (bclone_any _ _ _ x.key _ (HRK.out.ext (by with_reducible (repeat (first | exact Ext.rfl_ _ | assumption | refine Ext.drew ?_ | refine Ext.drewN ?_ _ | refine Ext.alloc ?_ _ | refine Ext.trans ?_ (by assumption))))) hq1)).mono ?_; rintro e w6 ⟨v6, rfl, hv6, _, hw6⟩; obtain ⟨A6, c6, rfl, _⟩ := hv6.rd; have o6 := OwnB.of_copyB hv6; have X6 := Lib.hid (show Ext wb w6 from (by with_reducible (repeat (first | exact Ext.rfl_ _ | assumption | refine Ext.drew ?_ | refine Ext.drewN ?_ _ | refine Ext.alloc ?_ _ | refine Ext.trans ?_ (by assumption))))); obtain ⟨r0, r1, r2, r3, _, _, _, _⟩ := box4 HBX.out X6.out
              refine hK _ _ ?_
              clear hK K
              (try simp only [Act.put, List.getElem_toArray, List.getElem_cons_zero, List.getElem_cons_succ, List.setIfInBounds_toArray, List.set_cons_zero, List.set_cons_succ])
              refine wpAnyIn_ready (rs := [10]) (by kernel_rfl) (by simp) ?_
              refine AllReadyIn.cons (o := ({ dst := some 40, op := Go.Op.call { callee := Go.Callee.value (Go.Operand.func 33), args := #[Go.Operand.tmp 39], argTypes := #[23] }, type := 23, pos := "merge.go:98", after := #[{ on := 9, ground := Go.Ground.data }, { on := 7, ground := Go.Ground.chain }, { on := 3, ground := Go.Ground.guard }], guard := some (3, true) } : Go.Oper)) rfl (fun K hK => ?_) AllReadyIn.nil
              go_simp
              refine ⟨trivial, fun h => (by simp [Fence.wide] at h), ?_⟩; refine (callsIn_wide.2 (bclone_any _ _ _ x.val _ (HRV.out.ext (X6.out.trans (by with_reducible (repeat (first | exact Ext.rfl_ _ | assumption | refine Ext.drew ?_ | refine Ext.drewN ?_ _ | refine Ext.alloc ?_ _ | refine Ext.trans ?_ (by assumption)))))) hq2)).mono ?_; rintro e w7 ⟨v7, rfl, hv7, _, hw7⟩; obtain ⟨A7, c7, rfl, _⟩ := hv7.rd; have o7 := OwnB.of_copyB hv7; have X7 := Lib.hid (show Ext wb w7 from X6.out.trans (by with_reducible (repeat (first | exact Ext.rfl_ _ | assumption | refine Ext.drew ?_ | refine Ext.drewN ?_ _ | refine Ext.alloc ?_ _ | refine Ext.trans ?_ (by assumption))))); have P67 := (show Ext w6 w7 from (by with_reducible (repeat (first | exact Ext.rfl_ _ | assumption | refine Ext.drew ?_ | refine Ext.drewN ?_ _ | refine Ext.alloc ?_ _ | refine Ext.trans ?_ (by assumption)))))
              refine hK _ _ ?_
              clear hK K
              (try simp only [Act.put, List.getElem_toArray, List.getElem_cons_zero, List.getElem_cons_succ, List.setIfInBounds_toArray, List.set_cons_zero, List.set_cons_succ])
              refine wpAnyIn_ready (rs := [11]) (by kernel_rfl) (by simp) ?_
              refine AllReadyIn.cons (o := ({ dst := some 41, op := Go.Op.build 47 #[(0, Go.Operand.tmp 37), (1, Go.Operand.tmp 40)], type := 47, pos := "merge.go:98", after := #[{ on := 7, ground := Go.Ground.data }, { on := 10, ground := Go.Ground.data }, { on := 3, ground := Go.Ground.guard }], guard := some (3, true) } : Go.Oper)) rfl (fun K hK => ?_) AllReadyIn.nil
              go_simp
              refine hK _ _ ?_
              clear hK K
              (try simp only [Act.put, List.getElem_toArray, List.getElem_cons_zero, List.getElem_cons_succ, List.setIfInBounds_toArray, List.set_cons_zero, List.set_cons_succ])
              refine wpAnyIn_ready (rs := [12]) (by kernel_rfl) (by simp) ?_
              refine AllReadyIn.cons (o := ({ dst := some 42, op := Go.Op.call { callee := Go.Callee.value (Go.Operand.tmp 34), args := #[Go.Operand.tmp 41], argTypes := #[47] }, type := 4, pos := "merge.go:98", after := #[{ on := 4, ground := Go.Ground.data }, { on := 11, ground := Go.Ground.data }, { on := 10, ground := Go.Ground.chain }, { on := 3, ground := Go.Ground.guard }], guard := some (3, true) } : Go.Oper)) rfl (fun K hK => ?_) AllReadyIn.nil
              go_simp
              obtain ⟨fn, tmps, assign, body, hy, hRd⟩ := hY _ (x.key, x.val) #[.agg #[.slice A6 x.key.length c6, .slice A7 x.val.length c7]] T (fun _ => False) w7 (num - 1) (hJ _ _ T _ (fun _ => False) _ w7 HJB.out (Kept.of_ext X7.out) (U8.of_ext X7.out) (fun _ h => h) (fun _ h => .inl h) (fun _ h => h) (fun _ h => .inl h)) (by rw [← HS1.out]; exact HPF.out) ⟨A6, _, c6, A7, _, c7, rfl, ⟨_, o6.ext P67⟩, ⟨_, o7⟩⟩ (fun k h => ⟨((HTT.out k).1 h).1, by have := ((HTT.out k).1 h).2; have := HTB.out.size; have := X7.out.size; omega⟩) (fun _ h => h.elim) (Nat.le_trans HKB.out.size X7.out.size); rw [hy]; refine ⟨fun h => (by simp [Fence.wide] at h), ?_⟩; refine RoundIn.mono hRd ?_; rintro e W3 hE; obtain ⟨bb, rfl, hB⟩ := two_ways hE
              refine hK _ _ ?_
              clear hK K
              (try simp only [Act.put, List.getElem_toArray, List.getElem_cons_zero, List.getElem_cons_succ, List.setIfInBounds_toArray, List.set_cons_zero, List.set_cons_succ])
              refine wpAnyIn_take (i := 13) (oi := ({ dst := some 43, op := Go.Op.unOp Go.UnOp.not 4 (Go.Operand.tmp 42), type := 4, pos := "merge.go:98", after := #[{ on := 12, ground := Go.Ground.data }, { on := 3, ground := Go.Ground.guard }], guard := some (3, true) } : Go.Oper)) (v := ?v13) rfl rfl (by kernel_rfl) (by kernel_rfl) (by kernel_rfl) (fun _ _ _ h => h) ⟨Or.inl ⟨by rfl, ?hy13⟩, fun _ => rfl⟩ ?rest13
              case hy13 => (intro w; go_simp; (try with_reducible rfl))
              (try simp only [Act.put, List.getElem_toArray, List.getElem_cons_zero, List.getElem_cons_succ, List.setIfInBounds_toArray, List.set_cons_zero, List.set_cons_succ])
              refine wpAnyIn_take (i := 14) (oi := ({ dst := some 44, op := Go.Op.pick (Go.Operand.tmp 33) (Go.Operand.tmp 43) (Go.Operand.const (Go.Value.bool false)), type := 4, pos := "merge.go:98", after := #[{ on := 3, ground := Go.Ground.data }, { on := 13, ground := Go.Ground.data }], guard := none } : Go.Oper)) (v := ?v14) rfl rfl (by kernel_rfl) (by kernel_rfl) (by kernel_rfl) (fun _ _ _ h => h) ⟨Or.inl ⟨by rfl, ?hy14⟩, fun _ => rfl⟩ ?rest14
              case hy14 => (intro w; go_simp; (try with_reducible rfl))
              (try simp only [Act.put, List.getElem_toArray, List.getElem_cons_zero, List.getElem_cons_succ, List.setIfInBounds_toArray, List.set_cons_zero, List.set_cons_succ])
              refine wpAnyIn_done (by kernel_rfl) ?_ _
            all_goals
              have HX7 := Lib.hid (show Ext wb w7 from X7.out)
              rcases hB with ⟨rfl, hJ3, hk3⟩ | ⟨rfl, hJ3, hk3⟩
              · have HK3 := Lib.hid ((HKB.out.then_ HX7.out).trans (hk3.mono fun k hk => .inr hk))
                have HT3 := Lib.hid ((HTB.out.then_ HX7.out).trans (hk3.mono fun k hk => .inl hk))
                have HJ3 := Lib.hid (show J (sn sq (es.take (k + 1))).1 T (fun _ => False) W3 from by rw [HS1.out]; exact hJ3)
                clear hJ3 hk3 hy hRd
                gi_wp2
                go_roundw
                case rel => exact ⟨k + 1, _, by go_num, by omega, rfl, HJ3, HK3, HT3, Lib.hid (.inr ⟨gg, k, hkn, rfl, HGT.out, Nat.lt_succ_self k, by rw [HKY.out, HXK.out], HD0.out⟩)⟩
                case measure => simp [intOf]; omega
              · have HJ3 := Lib.hid hJ3
                clear hJ3 hk3 hy hRd
                gi_wp2
                refine bodyPost_ret (results_none rfl _ _ _) rfl ?_
                exact ⟨⟨_, rfl⟩, .inr (by first | exact ⟨_, T, _, by rw [← HS1.out]; exact HPF.out, HJ3.out⟩ | exact ⟨_, by rw [← HS1.out]; exact HPF.out, T, _, HJ3.out⟩)⟩
          · have hdk : (x.kind == 1) = false := by simp [hkd]
            have HS1 : Hid ((sn sq (es.take (k + 1))).1 = (sn sq (es.take k)).1) := Lib.hid (by rw [HSN2.out]; unfold snStep; rw [if_neg HNEW.out]; simp only; rw [if_neg hkd])
            clear hkd
            gi_wp2
            refine wpIn_region_any (by kernel_rfl) ?_
            (try (change wpAnyIn _ _ _ _ _ _ _ _ _ (World.drew _)))
            refine wpAnyIn_take (i := 0) (oi := ({ dst := some 30, op := Go.Op.fieldAddr 37 (Go.Operand.tmp 6) 2, type := 0, pos := "merge.go:98", after := #[], guard := none } : Go.Oper)) (v := ?v15) rfl rfl (by kernel_rfl) (by kernel_rfl) (by kernel_rfl) (fun _ _ _ h => h) ⟨Or.inl ⟨by rfl, ?hy15⟩, fun _ => rfl⟩ ?rest15
            case hy15 => (intro w; go_simp; (try with_reducible rfl))
            (try simp only [Act.put, List.getElem_toArray, List.getElem_cons_zero, List.getElem_cons_succ, List.setIfInBounds_toArray, List.set_cons_zero, List.set_cons_succ])
            refine wpAnyIn_ready (rs := [1]) (by kernel_rfl) (by simp) ?_
            refine AllReadyIn.cons (o := ({ dst := some 31, op := Go.Op.load 35 (Go.Operand.tmp 30), type := 35, pos := "merge.go:98", after := #[{ on := 0, ground := Go.Ground.data }], guard := none } : Go.Oper)) rfl (fun K hK => ?_) AllReadyIn.nil
            go_simp
            refine hK _ _ ?_
            clear hK K
            (try simp only [Act.put, List.getElem_toArray, List.getElem_cons_zero, List.getElem_cons_succ, List.setIfInBounds_toArray, List.set_cons_zero, List.set_cons_succ])
            refine wpAnyIn_take (i := 2) (oi := ({ dst := some 32, op := Go.Op.binOp Go.BinOp.eql 35 (Go.Operand.tmp 31) (Go.Operand.const (Go.Value.int Go.IntKind.i64 1)) 35, type := 4, pos := "merge.go:98", after := #[{ on := 1, ground := Go.Ground.data }], guard := none } : Go.Oper)) (v := ?v16) rfl rfl (by kernel_rfl) (by kernel_rfl) (by kernel_rfl) (fun _ _ _ h => h) ⟨Or.inl ⟨by rfl, ?hy16⟩, fun _ => rfl⟩ ?rest16
            case hy16 => (intro w; go_simp; (try with_reducible rfl))
            (try simp only [Act.put, List.getElem_toArray, List.getElem_cons_zero, List.getElem_cons_succ, List.setIfInBounds_toArray, List.set_cons_zero, List.set_cons_succ])
            refine wpAnyIn_take (i := 3) (oi := ({ dst := some 33, op := Go.Op.move (Go.Operand.tmp 32), type := 4, pos := "merge.go:98", after := #[{ on := 2, ground := Go.Ground.data }], guard := none } : Go.Oper)) (v := ?v17) rfl rfl (by kernel_rfl) (by kernel_rfl) (by kernel_rfl) (fun _ _ _ h => h) ⟨Or.inl ⟨by rfl, ?hy17⟩, fun _ => rfl⟩ ?rest17
            case hy17 => (intro w; go_simp; (try with_reducible rfl))
            (try simp only [Act.put, List.getElem_toArray, List.getElem_cons_zero, List.getElem_cons_succ, List.setIfInBounds_toArray, List.set_cons_zero, List.set_cons_succ])
            refine wpAnyIn_take (i := 4) (oi := ({ dst := some 34, op := Go.Op.move (Go.Operand.tmp 0), type := 57, pos := "merge.go:98", after := #[{ on := 3, ground := Go.Ground.guard }], guard := some (3, true) } : Go.Oper)) (v := undef) rfl rfl (by kernel_rfl) (by kernel_rfl) (by kernel_rfl) (fun _ _ _ h => h) ⟨Or.inr ⟨by rfl, rfl⟩, fun _ => rfl⟩ ?_
            (try simp only [Act.put, List.getElem_toArray, List.getElem_cons_zero, List.getElem_cons_succ, List.setIfInBounds_toArray, List.set_cons_zero, List.set_cons_succ])
            refine wpAnyIn_take (i := 5) (oi := ({ dst := some 35, op := Go.Op.fieldAddr 37 (Go.Operand.tmp 6) 0, type := 0, pos := "merge.go:98", after := #[{ on := 3, ground := Go.Ground.guard }], guard := some (3, true) } : Go.Oper)) (v := undef) rfl rfl (by kernel_rfl) (by kernel_rfl) (by kernel_rfl) (fun _ _ _ h => h) ⟨Or.inr ⟨by rfl, rfl⟩, fun _ => rfl⟩ ?_
            (try simp only [Act.put, List.getElem_toArray, List.getElem_cons_zero, List.getElem_cons_succ, List.setIfInBounds_toArray, List.set_cons_zero, List.set_cons_succ])
            refine wpAnyIn_take (i := 6) (oi := ({ dst := some 36, op := Go.Op.load 23 (Go.Operand.tmp 35), type := 23, pos := "merge.go:98", after := #[{ on := 5, ground := Go.Ground.data }, { on := 3, ground := Go.Ground.guard }], guard := some (3, true) } : Go.Oper)) (v := undef) rfl rfl (by kernel_rfl) (by kernel_rfl) (by kernel_rfl) (fun _ _ _ h => h) ⟨Or.inr ⟨by rfl, rfl⟩, fun _ => rfl⟩ ?_
            (try simp only [Act.put, List.getElem_toArray, List.getElem_cons_zero, List.getElem_cons_succ, List.setIfInBounds_toArray, List.set_cons_zero, List.set_cons_succ])
            refine wpAnyIn_take (i := 8) (oi := ({ dst := some 38, op := Go.Op.fieldAddr 37 (Go.Operand.tmp 6) 3, type := 0, pos := "merge.go:98", after := #[{ on := 3, ground := Go.Ground.guard }], guard := some (3, true) } : Go.Oper)) (v := undef) rfl rfl (by kernel_rfl) (by kernel_rfl) (by kernel_rfl) (fun _ _ _ h => h) ⟨Or.inr ⟨by rfl, rfl⟩, fun _ => rfl⟩ ?_
            (try simp only [Act.put, List.getElem_toArray, List.getElem_cons_zero, List.getElem_cons_succ, List.setIfInBounds_toArray, List.set_cons_zero, List.set_cons_succ])
            refine wpAnyIn_take (i := 9) (oi := ({ dst := some 39, op := Go.Op.load 23 (Go.Operand.tmp 38), type := 23, pos := "merge.go:98", after := #[{ on := 8, ground := Go.Ground.data }, { on := 3, ground := Go.Ground.guard }], guard := some (3, true) } : Go.Oper)) (v := undef) rfl rfl (by kernel_rfl) (by kernel_rfl) (by kernel_rfl) (fun _ _ _ h => h) ⟨Or.inr ⟨by rfl, rfl⟩, fun _ => rfl⟩ ?_
            (try simp only [Act.put, List.getElem_toArray, List.getElem_cons_zero, List.getElem_cons_succ, List.setIfInBounds_toArray, List.set_cons_zero, List.set_cons_succ])
            refine wpAnyIn_ready (rs := [7]) (by kernel_rfl) (by simp) ?_
            refine AllReadyIn.cons (o := ({ dst := some 37, op := Go.Op.call { callee := Go.Callee.value (Go.Operand.func 33), args := #[Go.Operand.tmp 36], argTypes := #[23] }, type := 23, pos := "merge.go:98", after := #[{ on := 6, ground := Go.Ground.data }, { on := 3, ground := Go.Ground.chain }, { on := 3, ground := Go.Ground.guard }], guard := some (3, true) } : Go.Oper)) rfl (fun K hK => ?_) AllReadyIn.nil
            go_simp
            (first | refine ⟨fun _ h => (by cases h), ?_⟩ | refine ⟨trivial, ?_⟩ | refine ⟨fun _ _ => trivial, ?_⟩)
            refine hK _ _ ?_
            clear hK K
            (try simp only [Act.put, List.getElem_toArray, List.getElem_cons_zero, List.getElem_cons_succ, List.setIfInBounds_toArray, List.set_cons_zero, List.set_cons_succ])
            refine wpAnyIn_ready (rs := [10]) (by kernel_rfl) (by simp) ?_
            refine AllReadyIn.cons (o := ({ dst := some 40, op := Go.Op.call { callee := Go.Callee.value (Go.Operand.func 33), args := #[Go.Operand.tmp 39], argTypes := #[23] }, type := 23, pos := "merge.go:98", after := #[{ on := 9, ground := Go.Ground.data }, { on := 7, ground := Go.Ground.chain }, { on := 3, ground := Go.Ground.guard }], guard := some (3, true) } : Go.Oper)) rfl (fun K hK => ?_) AllReadyIn.nil
            go_simp
            (first | refine ⟨fun _ h => (by cases h), ?_⟩ | refine ⟨trivial, ?_⟩ | refine ⟨fun _ _ => trivial, ?_⟩)
            refine hK _ _ ?_
            clear hK K
            (try simp only [Act.put, List.getElem_toArray, List.getElem_cons_zero, List.getElem_cons_succ, List.setIfInBounds_toArray, List.set_cons_zero, List.set_cons_succ])
            refine wpAnyIn_take (i := 11) (oi := ({ dst := some 41, op := Go.Op.build 47 #[(0, Go.Operand.tmp 37), (1, Go.Operand.tmp 40)], type := 47, pos := "merge.go:98", after := #[{ on := 7, ground := Go.Ground.data }, { on := 10, ground := Go.Ground.data }, { on := 3, ground := Go.Ground.guard }], guard := some (3, true) } : Go.Oper)) (v := undef) rfl rfl (by kernel_rfl) (by kernel_rfl) (by kernel_rfl) (fun _ _ _ h => h) ⟨Or.inr ⟨by rfl, rfl⟩, fun _ => rfl⟩ ?_
            (try simp only [Act.put, List.getElem_toArray, List.getElem_cons_zero, List.getElem_cons_succ, List.setIfInBounds_toArray, List.set_cons_zero, List.set_cons_succ])
            refine wpAnyIn_ready (rs := [12]) (by kernel_rfl) (by simp) ?_
            refine AllReadyIn.cons (o := ({ dst := some 42, op := Go.Op.call { callee := Go.Callee.value (Go.Operand.tmp 34), args := #[Go.Operand.tmp 41], argTypes := #[47] }, type := 4, pos := "merge.go:98", after := #[{ on := 4, ground := Go.Ground.data }, { on := 11, ground := Go.Ground.data }, { on := 10, ground := Go.Ground.chain }, { on := 3, ground := Go.Ground.guard }], guard := some (3, true) } : Go.Oper)) rfl (fun K hK => ?_) AllReadyIn.nil
            go_simp
            (first | refine ⟨fun _ h => (by cases h), ?_⟩ | refine ⟨trivial, ?_⟩ | refine ⟨fun _ _ => trivial, ?_⟩)
            refine hK _ _ ?_
            clear hK K
            (try simp only [Act.put, List.getElem_toArray, List.getElem_cons_zero, List.getElem_cons_succ, List.setIfInBounds_toArray, List.set_cons_zero, List.set_cons_succ])
            refine wpAnyIn_take (i := 13) (oi := ({ dst := some 43, op := Go.Op.unOp Go.UnOp.not 4 (Go.Operand.tmp 42), type := 4, pos := "merge.go:98", after := #[{ on := 12, ground := Go.Ground.data }, { on := 3, ground := Go.Ground.guard }], guard := some (3, true) } : Go.Oper)) (v := undef) rfl rfl (by kernel_rfl) (by kernel_rfl) (by kernel_rfl) (fun _ _ _ h => h) ⟨Or.inr ⟨by rfl, rfl⟩, fun _ => rfl⟩ ?_
            (try simp only [Act.put, List.getElem_toArray, List.getElem_cons_zero, List.getElem_cons_succ, List.setIfInBounds_toArray, List.set_cons_zero, List.set_cons_succ])
            refine wpAnyIn_take (i := 14) (oi := ({ dst := some 44, op := Go.Op.pick (Go.Operand.tmp 33) (Go.Operand.tmp 43) (Go.Operand.const (Go.Value.bool false)), type := 4, pos := "merge.go:98", after := #[{ on := 3, ground := Go.Ground.data }, { on := 13, ground := Go.Ground.data }], guard := none } : Go.Oper)) (v := ?v18) rfl rfl (by kernel_rfl) (by kernel_rfl) (by kernel_rfl) (fun _ _ _ h => h) ⟨Or.inl ⟨by rfl, ?hy18⟩, fun _ => rfl⟩ ?rest18
            case hy18 => (intro w; go_simp; (try with_reducible rfl))
            (try simp only [Act.put, List.getElem_toArray, List.getElem_cons_zero, List.getElem_cons_succ, List.setIfInBounds_toArray, List.set_cons_zero, List.set_cons_succ])
            refine wpAnyIn_done (by kernel_rfl) ?_ _
            all_goals
              have HJZ := Lib.hid (hJ _ _ T _ (fun _ => False) _ wb.drew HJB.out (Kept.of_ext (Ext.drew (Ext.rfl_ _))) (U8.of_ext (Ext.drew (Ext.rfl_ _))) (fun _ h => h) (fun _ h => .inl h) (fun _ h => h) (fun _ h => .inl h))
              gi_wp2
              go_roundw
              case rel => exact ⟨k + 1, _, by go_num, by omega, rfl, Lib.hid (by rw [HS1.out]; exact HJZ.out), Lib.hid (HKB.out.then_ (Ext.drew (Ext.rfl_ _))), Lib.hid (HTB.out.then_ (Ext.drew (Ext.rfl_ _))), Lib.hid (.inr ⟨gg, k, hkn, rfl, HGT.out, Nat.lt_succ_self k, by rw [HKY.out, HXK.out], HD0.out⟩)⟩
              case measure => simp [intOf]; omega
        · cases he
          obtain ⟨gg2, cc2, q2, hvv2, _, _, _, ⟨f0, _⟩, hfe2⟩ := HOr.out.at_ hj
          cases hvv2
          have hv5 : u4 = .slice q2.A q2.n q2.c := by
            have h1 := (blk_cell (o := j * 4) (HKT.out.block gg (HO.out.lt gg rfl).2 HGT.out)).trans hvj
            rw [h1] at f0
            exact Option.some.inj f0
          subst hv5
          obtain ⟨ky, hky⟩ : ∃ ky : Bs, ky = es[j].key := ⟨_, rfl⟩
          have hkyn : ky ≠ [] := by rw [hky]; exact HNE.out _ (List.getElem_mem hj)
          have hrk2 : Rd wb q2.A q2.n ky := by rw [hky]; exact (RdE.parts (hfe2.extF hxa).rd).1
          have hsome : q2.A.isNone = false := by
            obtain ⟨b, o, e, _⟩ := hrk2.2 (by rw [← hrk2.1]; exact List.length_pos_iff.2 hkyn)
            rw [e]; rfl
          have HKR := Lib.hid hrk2
          have HKJ : Hid ((sn sq (es.take k)).2 = some ky) := Lib.hid (by rw [hky]; exact hkj)
          clear hrk2 f0 hfe2 hky hkj hkyn
          by_cases hkx : ky = x.key
          · have hde : decide (ky = x.key) = true := decide_eq_true hkx
            have HSAME : Hid (snStep sq (sn sq (es.take k)) x = sn sq (es.take k)) := Lib.hid (by unfold snStep; rw [if_pos (.inr (by rw [HKJ.out, hkx]))])
            clear hkx
            gi_wp2
            rw [← hwb]
            clear hwb hxa d0 d1 d2 d3
            refine ⟨trivial, fun h => (by simp [Fence.wide] at h), ?_⟩
            refine (callsIn_wide.2 (bequal_any _ _ _ _ _ _ ky x.key _ HKR.out HRK.out)).mono ?_
            rintro e w4 ⟨rfl, rfl⟩
            have HS1 : Hid ((sn sq (es.take (k + 1))).1 = (sn sq (es.take k)).1) := Lib.hid (by rw [HSN2.out, HSAME.out])
            have HS2 : Hid ((sn sq (es.take (k + 1))).2 = (sn sq (es.take k)).2) := Lib.hid (by rw [HSN2.out, HSAME.out])
            gi_wp2
            go_roundw
            case rel => exact ⟨k + 1, _, by go_num, by omega, rfl, Lib.hid (by rw [HS1.out]; exact HJB.out), HKB, HTB, Lib.hid (by rw [HS2.out]; exact HKEY.out.up)⟩
            case measure => simp [intOf]; omega
          · have hde : decide (ky = x.key) = false := decide_eq_false hkx
            have HNEW : Hid (¬ (sq < x.seq ∨ (sn sq (es.take k)).2 = some x.key)) := Lib.hid (by rw [HKJ.out]; rintro (h | h); exact HSQ.out h; exact hkx (Option.some.inj h))
            clear hkx
            gi_wp2
            rw [← hwb]
            clear hwb hxa d0 d1 d2 d3
            refine ⟨trivial, fun h => (by simp [Fence.wide] at h), ?_⟩
            refine (callsIn_wide.2 (bequal_any _ _ _ _ _ _ ky x.key _ HKR.out HRK.out)).mono ?_
            rintro e w4 ⟨rfl, rfl⟩
            have HKY : Hid ((sn sq (es.take (k + 1))).2 = some x.key) := Lib.hid (by rw [HSN2.out]; unfold snStep; rw [if_neg HNEW.out])
            by_cases hkd : x.kind = 1
            · have hdk : (x.kind == 1) = true := by simp [hkd]
              have HS1 : Hid ((sn sq (es.take (k + 1))).1 = (sn sq (es.take k)).1 ++ [(x.key, x.val)]) := Lib.hid (by rw [HSN2.out]; unfold snStep; rw [if_neg HNEW.out]; simp only; rw [if_pos hkd])
              clear hkd
              gi_wp2
              refine wpIn_region_any (by kernel_rfl) ?_
              (try (change wpAnyIn _ _ _ _ _ _ _ _ _ (World.drew _)))
              refine wpAnyIn_take (i := 0) (oi := ({ dst := some 30, op := Go.Op.fieldAddr 37 (Go.Operand.tmp 6) 2, type := 0, pos := "merge.go:98", after := #[], guard := none } : Go.Oper)) (v := ?v19) rfl rfl (by kernel_rfl) (by kernel_rfl) (by kernel_rfl) (fun _ _ _ h => h) ⟨Or.inl ⟨by rfl, ?hy19⟩, fun _ => rfl⟩ ?rest19
              case hy19 => (intro w; go_simp; (try with_reducible rfl))
              (try simp only [Act.put, List.getElem_toArray, List.getElem_cons_zero, List.getElem_cons_succ, List.setIfInBounds_toArray, List.set_cons_zero, List.set_cons_succ])
              refine wpAnyIn_ready (rs := [1]) (by kernel_rfl) (by simp) ?_
              refine AllReadyIn.cons (o := ({ dst := some 31, op := Go.Op.load 35 (Go.Operand.tmp 30), type := 35, pos := "merge.go:98", after := #[{ on := 0, ground := Go.Ground.data }], guard := none } : Go.Oper)) rfl (fun K hK => ?_) AllReadyIn.nil
              go_simp
              refine hK _ _ ?_
              clear hK K
              (try simp only [Act.put, List.getElem_toArray, List.getElem_cons_zero, List.getElem_cons_succ, List.setIfInBounds_toArray, List.set_cons_zero, List.set_cons_succ])
              refine wpAnyIn_take (i := 2) (oi := ({ dst := some 32, op := Go.Op.binOp Go.BinOp.eql 35 (Go.Operand.tmp 31) (Go.Operand.const (Go.Value.int Go.IntKind.i64 1)) 35, type := 4, pos := "merge.go:98", after := #[{ on := 1, ground := Go.Ground.data }], guard := none } : Go.Oper)) (v := ?v20) rfl rfl (by kernel_rfl) (by kernel_rfl) (by kernel_rfl) (fun _ _ _ h => h) ⟨Or.inl ⟨by rfl, ?hy20⟩, fun _ => rfl⟩ ?rest20
              case hy20 => (intro w; go_simp; (try with_reducible rfl))
              (try simp only [Act.put, List.getElem_toArray, List.getElem_cons_zero, List.getElem_cons_succ, List.setIfInBounds_toArray, List.set_cons_zero, List.set_cons_succ])
              refine wpAnyIn_take (i := 3) (oi := ({ dst := some 33, op := Go.Op.move (Go.Operand.tmp 32), type := 4, pos := "merge.go:98", after := #[{ on := 2, ground := Go.Ground.data }], guard := none } : Go.Oper)) (v := ?v21) rfl rfl (by kernel_rfl) (by kernel_rfl) (by kernel_rfl) (fun _ _ _ h => h) ⟨Or.inl ⟨by rfl, ?hy21⟩, fun _ => rfl⟩ ?rest21
              case hy21 => (intro w; go_simp; (try with_reducible rfl))
              (try simp only [Act.put, List.getElem_toArray, List.getElem_cons_zero, List.getElem_cons_succ, List.setIfInBounds_toArray, List.set_cons_zero, List.set_cons_succ])
              refine wpAnyIn_take (i := 4) (oi := ({ dst := some 34, op := Go.Op.move (Go.Operand.tmp 0), type := 57, pos := "merge.go:98", after := #[{ on := 3, ground := Go.Ground.guard }], guard := some (3, true) } : Go.Oper)) (v := ?v22) rfl rfl (by kernel_rfl) (by kernel_rfl) (by kernel_rfl) (fun _ _ _ h => h) ⟨Or.inl ⟨by rfl, ?hy22⟩, fun _ => rfl⟩ ?rest22
              case hy22 => (intro w; go_simp; (try with_reducible rfl))
              (try simp only [Act.put, List.getElem_toArray, List.getElem_cons_zero, List.getElem_cons_succ, List.setIfInBounds_toArray, List.set_cons_zero, List.set_cons_succ])
              refine wpAnyIn_take (i := 5) (oi := ({ dst := some 35, op := Go.Op.fieldAddr 37 (Go.Operand.tmp 6) 0, type := 0, pos := "merge.go:98", after := #[{ on := 3, ground := Go.Ground.guard }], guard := some (3, true) } : Go.Oper)) (v := ?v23) rfl rfl (by kernel_rfl) (by kernel_rfl) (by kernel_rfl) (fun _ _ _ h => h) ⟨Or.inl ⟨by rfl, ?hy23⟩, fun _ => rfl⟩ ?rest23
              case hy23 => (intro w; go_simp; (try with_reducible rfl))
              (try simp only [Act.put, List.getElem_toArray, List.getElem_cons_zero, List.getElem_cons_succ, List.setIfInBounds_toArray, List.set_cons_zero, List.set_cons_succ])
              refine wpAnyIn_take (i := 8) (oi := ({ dst := some 38, op := Go.Op.fieldAddr 37 (Go.Operand.tmp 6) 3, type := 0, pos := "merge.go:98", after := #[{ on := 3, ground := Go.Ground.guard }], guard := some (3, true) } : Go.Oper)) (v := ?v24) rfl rfl (by kernel_rfl) (by kernel_rfl) (by kernel_rfl) (fun _ _ _ h => h) ⟨Or.inl ⟨by rfl, ?hy24⟩, fun _ => rfl⟩ ?rest24
              case hy24 => (intro w; go_simp; (try with_reducible rfl))
              (try simp only [Act.put, List.getElem_toArray, List.getElem_cons_zero, List.getElem_cons_succ, List.setIfInBounds_toArray, List.set_cons_zero, List.set_cons_succ])
              refine wpAnyIn_ready (rs := [6, 9]) (by kernel_rfl) (by simp) ?_
              refine AllReadyIn.cons (o := ({ dst := some 36, op := Go.Op.load 23 (Go.Operand.tmp 35), type := 23, pos := "merge.go:98", after := #[{ on := 5, ground := Go.Ground.data }, { on := 3, ground := Go.Ground.guard }], guard := some (3, true) } : Go.Oper)) rfl (fun K hK => ?one25) ?more25
              case' one25 =>
                go_simp
                refine hK _ _ ?_
                clear hK K
                (try simp only [Act.put, List.getElem_toArray, List.getElem_cons_zero, List.getElem_cons_succ, List.setIfInBounds_toArray, List.set_cons_zero, List.set_cons_succ])
                refine wpAnyIn_ready (rs := [7, 9]) (by kernel_rfl) (by simp) ?_
                refine AllReadyIn.cons (o := ({ dst := some 37, op := Go.Op.call { callee := Go.Callee.value (Go.Operand.func 33), args := #[Go.Operand.tmp 36], argTypes := #[23] }, type := 23, pos := "merge.go:98", after := #[{ on := 6, ground := Go.Ground.data }, { on := 3, ground := Go.Ground.chain }, { on := 3, ground := Go.Ground.guard }], guard := some (3, true) } : Go.Oper)) rfl (fun K hK => ?one26) ?more26
                case' one26 =>
                  go_simp
                  refine ⟨trivial, fun h => (by simp [Fence.wide] at h), ?_⟩; refine (callsIn_wide.2 (bclone_any _ _ _ x.key _ (HRK.out.ext (by with_reducible (repeat (first | exact Ext.rfl_ _ | assumption | refine Ext.drew ?_ | refine Ext.drewN ?_ _ | refine Ext.alloc ?_ _ | refine Ext.trans ?_ (by assumption))))) hq1)).mono ?_; rintro e w6 ⟨v6, rfl, hv6, _, hw6⟩; obtain ⟨A6, c6, rfl, _⟩ := hv6.rd; have o6 := OwnB.of_copyB hv6; have X6 := Lib.hid (show Ext wb w6 from (by with_reducible (repeat (first | exact Ext.rfl_ _ | assumption | refine Ext.drew ?_ | refine Ext.drewN ?_ _ | refine Ext.alloc ?_ _ | refine Ext.trans ?_ (by assumption))))); obtain ⟨r0, r1, r2, r3, _, _, _, _⟩ := box4 HBX.out X6.out
                  refine hK _ _ ?_
                  clear hK K
                  (try simp only [Act.put, List.getElem_toArray, List.getElem_cons_zero, List.getElem_cons_succ, List.setIfInBounds_toArray, List.set_cons_zero, List.set_cons_succ])
                  refine wpAnyIn_ready (rs := [9]) (by kernel_rfl) (by simp) ?_
                  refine AllReadyIn.cons (o := ({ dst := some 39, op := Go.Op.load 23 (Go.Operand.tmp 38), type := 23, pos := "merge.go:98", after := #[{ on := 8, ground := Go.Ground.data }, { on := 3, ground := Go.Ground.guard }], guard := some (3, true) } : Go.Oper)) rfl (fun K hK => ?_) AllReadyIn.nil
                  go_simp
                  refine hK _ _ ?_
                  clear hK K
                  (try simp only [Act.put, List.getElem_toArray, List.getElem_cons_zero, List.getElem_cons_succ, List.setIfInBounds_toArray, List.set_cons_zero, List.set_cons_succ])
                  refine wpAnyIn_ready (rs := [10]) (by kernel_rfl) (by simp) ?_
                  refine AllReadyIn.cons (o := ({ dst := some 40, op := Go.Op.call { callee := Go.Callee.value (Go.Operand.func 33), args := #[Go.Operand.tmp 39], argTypes := #[23] }, type := 23, pos := "merge.go:98", after := #[{ on := 9, ground := Go.Ground.data }, { on := 7, ground := Go.Ground.chain }, { on := 3, ground := Go.Ground.guard }], guard := some (3, true) } : Go.Oper)) rfl (fun K hK => ?_) AllReadyIn.nil
                  go_simp
                  refine ⟨trivial, fun h => (by simp [Fence.wide] at h), ?_⟩; refine (callsIn_wide.2 (bclone_any _ _ _ x.val _ (HRV.out.ext (X6.out.trans (by with_reducible (repeat (first | exact Ext.rfl_ _ | assumption | refine Ext.drew ?_ | refine Ext.drewN ?_ _ | refine Ext.alloc ?_ _ | refine Ext.trans ?_ (by assumption)))))) hq2)).mono ?_; rintro e w7 ⟨v7, rfl, hv7, _, hw7⟩; obtain ⟨A7, c7, rfl, _⟩ := hv7.rd; have o7 := OwnB.of_copyB hv7; have X7 := Lib.hid (show Ext wb w7 from X6.out.trans (by with_reducible (repeat (first | exact Ext.rfl_ _ | assumption | refine Ext.drew ?_ | refine Ext.drewN ?_ _ | refine Ext.alloc ?_ _ | refine Ext.trans ?_ (by assumption))))); have P67 := (show Ext w6 w7 from (by with_reducible (repeat (first | exact Ext.rfl_ _ | assumption | refine Ext.drew ?_ | refine Ext.drewN ?_ _ | refine Ext.alloc ?_ _ | refine Ext.trans ?_ (by assumption)))))
                  refine hK _ _ ?_
                  clear hK K
                  (try simp only [Act.put, List.getElem_toArray, List.getElem_cons_zero, List.getElem_cons_succ, List.setIfInBounds_toArray, List.set_cons_zero, List.set_cons_succ])
                  refine wpAnyIn_ready (rs := [11]) (by kernel_rfl) (by simp) ?_
                  refine AllReadyIn.cons (o := ({ dst := some 41, op := Go.Op.build 47 #[(0, Go.Operand.tmp 37), (1, Go.Operand.tmp 40)], type := 47, pos := "merge.go:98", after := #[{ on := 7, ground := Go.Ground.data }, { on := 10, ground := Go.Ground.data }, { on := 3, ground := Go.Ground.guard }], guard := some (3, true) } : Go.Oper)) rfl (fun K hK => ?_) AllReadyIn.nil
                  go_simp
                  refine hK _ _ ?_
                  clear hK K
                  (try simp only [Act.put, List.getElem_toArray, List.getElem_cons_zero, List.getElem_cons_succ, List.setIfInBounds_toArray, List.set_cons_zero, List.set_cons_succ])
                  refine wpAnyIn_ready (rs := [12]) (by kernel_rfl) (by simp) ?_
                  refine AllReadyIn.cons (o := ({ dst := some 42, op := Go.Op.call { callee := Go.Callee.value (Go.Operand.tmp 34), args := #[Go.Operand.tmp 41], argTypes := #[47] }, type := 4, pos := "merge.go:98", after := #[{ on := 4, ground := Go.Ground.data }, { on := 11, ground := Go.Ground.data }, { on := 10, ground := Go.Ground.chain }, { on := 3, ground := Go.Ground.guard }], guard := some (3, true) } : Go.Oper)) rfl (fun K hK => ?_) AllReadyIn.nil
                  go_simp
                  obtain ⟨fn, tmps, assign, body, hy, hRd⟩ := hY _ (x.key, x.val) #[.agg #[.slice A6 x.key.length c6, .slice A7 x.val.length c7]] T (fun _ => False) w7 (num - 1) (hJ _ _ T _ (fun _ => False) _ w7 HJB.out (Kept.of_ext X7.out) (U8.of_ext X7.out) (fun _ h => h) (fun _ h => .inl h) (fun _ h => h) (fun _ h => .inl h)) (by rw [← HS1.out]; exact HPF.out) ⟨A6, _, c6, A7, _, c7, rfl, ⟨_, o6.ext P67⟩, ⟨_, o7⟩⟩ (fun k h => ⟨((HTT.out k).1 h).1, by have := ((HTT.out k).1 h).2; have := HTB.out.size; have := X7.out.size; omega⟩) (fun _ h => h.elim) (Nat.le_trans HKB.out.size X7.out.size); rw [hy]; refine ⟨fun h => (by simp [Fence.wide] at h), ?_⟩; refine RoundIn.mono hRd ?_; rintro e W3 hE; obtain ⟨bb, rfl, hB⟩ := two_ways hE
                  refine hK _ _ ?_
                  clear hK K
                  (try simp only [Act.put, List.getElem_toArray, List.getElem_cons_zero, List.getElem_cons_succ, List.setIfInBounds_toArray, List.set_cons_zero, List.set_cons_succ])
                  refine wpAnyIn_take (i := 13) (oi := ({ dst := some 43, op := Go.Op.unOp Go.UnOp.not 4 (Go.Operand.tmp 42), type := 4, pos := "merge.go:98", after := #[{ on := 12, ground := Go.Ground.data }, { on := 3, ground := Go.Ground.guard }], guard := some (3, true) } : Go.Oper)) (v := ?v27) rfl rfl (by kernel_rfl) (by kernel_rfl) (by kernel_rfl) (fun _ _ _ h => h) ⟨Or.inl ⟨by rfl, ?hy27⟩, fun _ => rfl⟩ ?rest27
                  case hy27 => (intro w; go_simp; (try with_reducible rfl))
                  (try simp only [Act.put, List.getElem_toArray, List.getElem_cons_zero, List.getElem_cons_succ, List.setIfInBounds_toArray, List.set_cons_zero, List.set_cons_succ])
                  refine wpAnyIn_take (i := 14) (oi := ({ dst := some 44, op := Go.Op.pick (Go.Operand.tmp 33) (Go.Operand.tmp 43) (Go.Operand.const (Go.Value.bool false)), type := 4, pos := "merge.go:98", after := #[{ on := 3, ground := Go.Ground.data }, { on := 13, ground := Go.Ground.data }], guard := none } : Go.Oper)) (v := ?v28) rfl rfl (by kernel_rfl) (by kernel_rfl) (by kernel_rfl) (fun _ _ _ h => h) ⟨Or.inl ⟨by rfl, ?hy28⟩, fun _ => rfl⟩ ?rest28
                  case hy28 => (intro w; go_simp; (try with_reducible rfl))
                  (try simp only [Act.put, List.getElem_toArray, List.getElem_cons_zero, List.getElem_cons_succ, List.setIfInBounds_toArray, List.set_cons_zero, List.set_cons_succ])
                  refine wpAnyIn_done (by kernel_rfl) ?_ _
                case' more26 =>
                  refine AllReadyIn.cons (o := ({ dst := some 39, op := Go.Op.load 23 (Go.Operand.tmp 38), type := 23, pos := "merge.go:98", after := #[{ on := 8, ground := Go.Ground.data }, { on := 3, ground := Go.Ground.guard }], guard := some (3, true) } : Go.Oper)) rfl (fun K hK => ?_) AllReadyIn.nil
                  go_simp
                  refine hK _ _ ?_
                  clear hK K
                  (try simp only [Act.put, List.getElem_toArray, List.getElem_cons_zero, List.getElem_cons_succ, List.setIfInBounds_toArray, List.set_cons_zero, List.set_cons_succ])
                  refine wpAnyIn_ready (rs := [7]) (by kernel_rfl) (by simp) ?_
                  refine AllReadyIn.cons (o := ({ dst := some 37, op := Go.Op.call { callee := Go.Callee.value (Go.Operand.func 33), args := #[Go.Operand.tmp 36], argTypes := #[23] }, type := 23, pos := "merge.go:98", after := #[{ on := 6, ground := Go.Ground.data }, { on := 3, ground := Go.Ground.chain }, { on := 3, ground := Go.Ground.guard }], guard := some (3, true) } : Go.Oper)) rfl (fun K hK => ?_) AllReadyIn.nil
                  go_simp
                  refine ⟨trivial, fun h => (by simp [Fence.wide] at h), ?_⟩; refine (callsIn_wide.2 (bclone_any _ _ _ x.key _ (HRK.out.ext (by with_reducible (repeat (first | exact Ext.rfl_ _ | assumption | refine Ext.drew ?_ | refine Ext.drewN ?_ _ | refine Ext.alloc ?_ _ | refine Ext.trans ?_ (by assumption))))) hq1)).mono ?_; rintro e w6 ⟨v6, rfl, hv6, _, hw6⟩; obtain ⟨A6, c6, rfl, _⟩ := hv6.rd; have o6 := OwnB.of_copyB hv6; have X6 := Lib.hid (show Ext wb w6 from (by with_reducible (repeat (first | exact Ext.rfl_ _ | assumption | refine Ext.drew ?_ | refine Ext.drewN ?_ _ | refine Ext.alloc ?_ _ | refine Ext.trans ?_ (by assumption))))); obtain ⟨r0, r1, r2, r3, _, _, _, _⟩ := box4 HBX.out X6.out
                  refine hK _ _ ?_
                  clear hK K
                  (try simp only [Act.put, List.getElem_toArray, List.getElem_cons_zero, List.getElem_cons_succ, List.setIfInBounds_toArray, List.set_cons_zero, List.set_cons_succ])
                  refine wpAnyIn_ready (rs := [10]) (by kernel_rfl) (by simp) ?_
                  refine AllReadyIn.cons (o := ({ dst := some 40, op := Go.Op.call { callee := Go.Callee.value (Go.Operand.func 33), args := #[Go.Operand.tmp 39], argTypes := #[23] }, type := 23, pos := "merge.go:98", after := #[{ on := 9, ground := Go.Ground.data }, { on := 7, ground := Go.Ground.chain }, { on := 3, ground := Go.Ground.guard }], guard := some (3, true) } : Go.Oper)) rfl (fun K hK => ?_) AllReadyIn.nil
                  go_simp
                  refine ⟨trivial, fun h => (by simp [Fence.wide] at h), ?_⟩; refine (callsIn_wide.2 (bclone_any _ _ _ x.val _ (HRV.out.ext (X6.out.trans (by with_reducible (repeat (first | exact Ext.rfl_ _ | assumption | refine Ext.drew ?_ | refine Ext.drewN ?_ _ | refine Ext.alloc ?_ _ | refine Ext.trans ?_ (by assumption)))))) hq2)).mono ?_; rintro e w7 ⟨v7, rfl, hv7, _, hw7⟩; obtain ⟨A7, c7, rfl, _⟩ := hv7.rd; have o7 := OwnB.of_copyB hv7; have X7 := Lib.hid (show Ext wb w7 from X6.out.trans (by with_reducible (repeat (first | exact Ext.rfl_ _ | assumption | refine Ext.drew ?_ | refine Ext.drewN ?_ _ | refine Ext.alloc ?_ _ | refine Ext.trans ?_ (by assumption))))); have P67 := (show Ext w6 w7 from (by with_reducible (repeat (first | exact Ext.rfl_ _ | assumption | refine Ext.drew ?_ | refine Ext.drewN ?_ _ | refine Ext.alloc ?_ _ | refine Ext.trans ?_ (by assumption)))))
                  refine hK _ _ ?_
                  clear hK K
                  (try simp only [Act.put, List.getElem_toArray, List.getElem_cons_zero, List.getElem_cons_succ, List.setIfInBounds_toArray, List.set_cons_zero, List.set_cons_succ])
                  refine wpAnyIn_ready (rs := [11]) (by kernel_rfl) (by simp) ?_
                  refine AllReadyIn.cons (o := ({ dst := some 41, op := Go.Op.build 47 #[(0, Go.Operand.tmp 37), (1, Go.Operand.tmp 40)], type := 47, pos := "merge.go:98", after := #[{ on := 7, ground := Go.Ground.data }, { on := 10, ground := Go.Ground.data }, { on := 3, ground := Go.Ground.guard }], guard := some (3, true) } : Go.Oper)) rfl (fun K hK => ?_) AllReadyIn.nil
                  go_simp
                  refine hK _ _ ?_
                  clear hK K
                  (try simp only [Act.put, List.getElem_toArray, List.getElem_cons_zero, List.getElem_cons_succ, List.setIfInBounds_toArray, List.set_cons_zero, List.set_cons_succ])
                  refine wpAnyIn_ready (rs := [12]) (by kernel_rfl) (by simp) ?_
                  refine AllReadyIn.cons (o := ({ dst := some 42, op := Go.Op.call { callee := Go.Callee.value (Go.Operand.tmp 34), args := #[Go.Operand.tmp 41], argTypes := #[47] }, type := 4, pos := "merge.go:98", after := #[{ on := 4, ground := Go.Ground.data }, { on := 11, ground := Go.Ground.data }, { on := 10, ground := Go.Ground.chain }, { on := 3, ground := Go.Ground.guard }], guard := some (3, true) } : Go.Oper)) rfl (fun K hK => ?_) AllReadyIn.nil
                  go_simp
                  obtain ⟨fn, tmps, assign, body, hy, hRd⟩ := hY _ (x.key, x.val) #[.agg #[.slice A6 x.key.length c6, .slice A7 x.val.length c7]] T (fun _ => False) w7 (num - 1) (hJ _ _ T _ (fun _ => False) _ w7 HJB.out (Kept.of_ext X7.out) (U8.of_ext X7.out) (fun _ h => h) (fun _ h => .inl h) (fun _ h => h) (fun _ h => .inl h)) (by rw [← HS1.out]; exact HPF.out) ⟨A6, _, c6, A7, _, c7, rfl, ⟨_, o6.ext P67⟩, ⟨_, o7⟩⟩ (fun k h => ⟨((HTT.out k).1 h).1, by have := ((HTT.out k).1 h).2; have := HTB.out.size; have := X7.out.size; omega⟩) (fun _ h => h.elim) (Nat.le_trans HKB.out.size X7.out.size); rw [hy]; refine ⟨fun h => (by simp [Fence.wide] at h), ?_⟩; refine RoundIn.mono hRd ?_; rintro e W3 hE; obtain ⟨bb, rfl, hB⟩ := two_ways hE
                  refine hK _ _ ?_
                  clear hK K
                  (try simp only [Act.put, List.getElem_toArray, List.getElem_cons_zero, List.getElem_cons_succ, List.setIfInBounds_toArray, List.set_cons_zero, List.set_cons_succ])
                  refine wpAnyIn_take (i := 13) (oi := ({ dst := some 43, op := Go.Op.unOp Go.UnOp.not 4 (Go.Operand.tmp 42), type := 4, pos := "merge.go:98", after := #[{ on := 12, ground := Go.Ground.data }, { on := 3, ground := Go.Ground.guard }], guard := some (3, true) } : Go.Oper)) (v := ?v29) rfl rfl (by kernel_rfl) (by kernel_rfl) (by kernel_rfl) (fun _ _ _ h => h) ⟨Or.inl ⟨by rfl, ?hy29⟩, fun _ => rfl⟩ ?rest29
                  case hy29 => (intro w; go_simp; (try with_reducible rfl))
                  (try simp only [Act.put, List.getElem_toArray, List.getElem_cons_zero, List.getElem_cons_succ, List.setIfInBounds_toArray, List.set_cons_zero, List.set_cons_succ])
                  refine wpAnyIn_take (i := 14) (oi := ({ dst := some 44, op := Go.Op.pick (Go.Operand.tmp 33) (Go.Operand.tmp 43) (Go.Operand.const (Go.Value.bool false)), type := 4, pos := "merge.go:98", after := #[{ on := 3, ground := Go.Ground.data }, { on := 13, ground := Go.Ground.data }], guard := none } : Go.Oper)) (v := ?v30) rfl rfl (by kernel_rfl) (by kernel_rfl) (by kernel_rfl) (fun _ _ _ h => h) ⟨Or.inl ⟨by rfl, ?hy30⟩, fun _ => rfl⟩ ?rest30
                  case hy30 => (intro w; go_simp; (try with_reducible rfl))
                  (try simp only [Act.put, List.getElem_toArray, List.getElem_cons_zero, List.getElem_cons_succ, List.setIfInBounds_toArray, List.set_cons_zero, List.set_cons_succ])
                  refine wpAnyIn_done (by kernel_rfl) ?_ _
              case' more25 =>
                refine AllReadyIn.cons (o := ({ dst := some 39, op := Go.Op.load 23 (Go.Operand.tmp 38), type := 23, pos := "merge.go:98", after := #[{ on := 8, ground := Go.Ground.data }, { on := 3, ground := Go.Ground.guard }], guard := some (3, true) } : Go.Oper)) rfl (fun K hK => ?_) AllReadyIn.nil
                go_simp
                refine hK _ _ ?_
                clear hK K
                (try simp only [Act.put, List.getElem_toArray, List.getElem_cons_zero, List.getElem_cons_succ, List.setIfInBounds_toArray, List.set_cons_zero, List.set_cons_succ])
                refine wpAnyIn_ready (rs := [6]) (by kernel_rfl) (by simp) ?_
                refine AllReadyIn.cons (o := ({ dst := some 36, op := Go.Op.load 23 (Go.Operand.tmp 35), type := 23, pos := "merge.go:98", after := #[{ on := 5, ground := Go.Ground.data }, { on := 3, ground := Go.Ground.guard }], guard := some (3, true) } : Go.Oper)) rfl (fun K hK => ?_) AllReadyIn.nil
                go_simp
                refine hK _ _ ?_
                clear hK K
                (try simp only [Act.put, List.getElem_toArray, List.getElem_cons_zero, List.getElem_cons_succ, List.setIfInBounds_toArray, List.set_cons_zero, List.set_cons_succ])
                refine wpAnyIn_ready (rs := [7]) (by kernel_rfl) (by simp) ?_
                refine AllReadyIn.cons (o := ({ dst := some 37, op := Go.Op.call { callee := Go.Callee.value (Go.Operand.func 33), args := #[Go.Operand.tmp 36], argTypes := #[23] }, type := 23, pos := "merge.go:98", after := #[{ on := 6, ground := Go.Ground.data }, { on := 3, ground := Go.Ground.chain }, { on := 3, ground := Go.Ground.guard }], guard := some (3, true) } : Go.Oper)) rfl (fun K hK => ?_) AllReadyIn.nil
                go_simp
                refine ⟨trivial, fun h => (by simp [Fence.wide] at h), ?_⟩; refine (callsIn_wide.2 (bclone_any _ _ _ x.key _ (HRK.out.ext (by with_reducible (repeat (first | exact Ext.rfl_ _ | assumption | refine Ext.drew ?_ | refine Ext.drewN ?_ _ | refine Ext.alloc ?_ _ | refine Ext.trans ?_ (by assumption))))) hq1)).mono ?_; rintro e w6 ⟨v6, rfl, hv6, _, hw6⟩; obtain ⟨A6, c6, rfl, _⟩ := hv6.rd; have o6 := OwnB.of_copyB hv6; have X6 := Lib.hid (show Ext wb w6 from (by with_reducible (repeat (first | exact Ext.rfl_ _ | assumption | refine Ext.drew ?_ | refine Ext.drewN ?_ _ | refine Ext.alloc ?_ _ | refine Ext.trans ?_ (by assumption))))); obtain ⟨r0, r1, r2, r3, _, _, _, _⟩ := box4 HBX.out X6.out
                refine hK _ _ ?_
                clear hK K
                (try simp only [Act.put, List.getElem_toArray, List.getElem_cons_zero, List.getElem_cons_succ, List.setIfInBounds_toArray, List.set_cons_zero, List.set_cons_succ])
                refine wpAnyIn_ready (rs := [10]) (by kernel_rfl) (by simp) ?_
                refine AllReadyIn.cons (o := ({ dst := some 40, op := Go.Op.call { callee := Go.Callee.value (Go.Operand.func 33), args := #[Go.Operand.tmp 39], argTypes := #[23] }, type := 23, pos := "merge.go:98", after := #[{ on := 9, ground := Go.Ground.data }, { on := 7, ground := Go.Ground.chain }, { on := 3, ground := Go.Ground.guard }], guard := some (3, true) } : Go.Oper)) rfl (fun K hK => ?_) AllReadyIn.nil
                go_simp
                refine ⟨trivial, fun h => (by simp [Fence.wide] at h), ?_⟩; refine (callsIn_wide.2 (bclone_any _ _ _ x.val _ (HRV.out.ext (X6.out.trans (by with_reducible (repeat (first | exact Ext.rfl_ _ | assumption | refine Ext.drew ?_ | refine Ext.drewN ?_ _ | refine Ext.alloc ?_ _ | refine Ext.trans ?_ (by assumption)))))) hq2)).mono ?_; rintro e w7 ⟨v7, rfl, hv7, _, hw7⟩; obtain ⟨A7, c7, rfl, _⟩ := hv7.rd; have o7 := OwnB.of_copyB hv7; have X7 := Lib.hid (show Ext wb w7 from X6.out.trans (by with_reducible (repeat (first | exact Ext.rfl_ _ | assumption | refine Ext.drew ?_ | refine Ext.drewN ?_ _ | refine Ext.alloc ?_ _ | refine Ext.trans ?_ (by assumption))))); have P67 := (show Ext w6 w7 from (by with_reducible (repeat (first | exact Ext.rfl_ _ | assumption | refine Ext.drew ?_ | refine Ext.drewN ?_ _ | refine Ext.alloc ?_ _ | refine Ext.trans ?_ (by assumption)))))
                refine hK _ _ ?_
                clear hK K
                (try simp only [Act.put, List.getElem_toArray, List.getElem_cons_zero, List.getElem_cons_succ, List.setIfInBounds_toArray, List.set_cons_zero, List.set_cons_succ])
                refine wpAnyIn_ready (rs := [11]) (by kernel_rfl) (by simp) ?_
                refine AllReadyIn.cons (o := ({ dst := some 41, op := Go.Op.build 47 #[(0, Go.Operand.tmp 37), (1, Go.Operand.tmp 40)], type := 47, pos := "merge.go:98", after := #[{ on := 7, ground := Go.Ground.data }, { on := 10, ground := Go.Ground.data }, { on := 3, ground := Go.Ground.guard }], guard := some (3, true) } : Go.Oper)) rfl (fun K hK => ?_) AllReadyIn.nil
                go_simp
                refine hK _ _ ?_
                clear hK K
                (try simp only [Act.put, List.getElem_toArray, List.getElem_cons_zero, List.getElem_cons_succ, List.setIfInBounds_toArray, List.set_cons_zero, List.set_cons_succ])
                refine wpAnyIn_ready (rs := [12]) (by kernel_rfl) (by simp) ?_
                refine AllReadyIn.cons (o := ({ dst := some 42, op := Go.Op.call { callee := Go.Callee.value (Go.Operand.tmp 34), args := #[Go.Operand.tmp 41], argTypes := #[47] }, type := 4, pos := "merge.go:98", after := #[{ on := 4, ground := Go.Ground.data }, { on := 11, ground := Go.Ground.data }, { on := 10, ground := Go.Ground.chain }, { on := 3, ground := Go.Ground.guard }], guard := some (3, true) } : Go.Oper)) rfl (fun K hK => ?_) AllReadyIn.nil
                go_simp
                obtain ⟨fn, tmps, assign, body, hy, hRd⟩ := hY _ (x.key, x.val) #[.agg #[.slice A6 x.key.length c6, .slice A7 x.val.length c7]] T (fun _ => False) w7 (num - 1) (hJ _ _ T _ (fun _ => False) _ w7 HJB.out (Kept.of_ext X7.out) (U8.of_ext X7.out) (fun _ h => h) (fun _ h => .inl h) (fun _ h => h) (fun _ h => .inl h)) (by rw [← HS1.out]; exact HPF.out) ⟨A6, _, c6, A7, _, c7, rfl, ⟨_, o6.ext P67⟩, ⟨_, o7⟩⟩ (fun k h => ⟨((HTT.out k).1 h).1, by have := ((HTT.out k).1 h).2; have := HTB.out.size; have := X7.out.size; omega⟩) (fun _ h => h.elim) (Nat.le_trans HKB.out.size X7.out.size); rw [hy]; refine ⟨fun h => (by simp [Fence.wide] at h), ?_⟩; refine RoundIn.mono hRd ?_; rintro e W3 hE; obtain ⟨bb, rfl, hB⟩ := two_ways hE
                refine hK _ _ ?_
                clear hK K
                (try simp only [Act.put, List.getElem_toArray, List.getElem_cons_zero, List.getElem_cons_succ, List.setIfInBounds_toArray, List.set_cons_zero, List.set_cons_succ])
                refine wpAnyIn_take (i := 13) (oi := ({ dst := some 43, op := Go.Op.unOp Go.UnOp.not 4 (Go.Operand.tmp 42), type := 4, pos := "merge.go:98", after := #[{ on := 12, ground := Go.Ground.data }, { on := 3, ground := Go.Ground.guard }], guard := some (3, true) } : Go.Oper)) (v := ?v31) rfl rfl (by kernel_rfl) (by kernel_rfl) (by kernel_rfl) (fun _ _ _ h => h) ⟨Or.inl ⟨by rfl, ?hy31⟩, fun _ => rfl⟩ ?rest31
                case hy31 => (intro w; go_simp; (try with_reducible rfl))
                (try simp only [Act.put, List.getElem_toArray, List.getElem_cons_zero, List.getElem_cons_succ, List.setIfInBounds_toArray, List.set_cons_zero, List.set_cons_succ])
                refine wpAnyIn_take (i := 14) (oi := ({ dst := some 44, op := Go.Op.pick (Go.Operand.tmp 33) (Go.Operand.tmp 43) (Go.Operand.const (Go.Value.bool false)), type := 4, pos := "merge.go:98", after := #[{ on := 3, ground := Go.Ground.data }, { on := 13, ground := Go.Ground.data }], guard := none } : Go.Oper)) (v := ?v32) rfl rfl (by kernel_rfl) (by kernel_rfl) (by kernel_rfl) (fun _ _ _ h => h) ⟨Or.inl ⟨by rfl, ?hy32⟩, fun _ => rfl⟩ ?rest32
                case hy32 => (intro w; go_simp; (try with_reducible rfl))
                (try simp only [Act.put, List.getElem_toArray, List.getElem_cons_zero, List.getElem_cons_succ, List.setIfInBounds_toArray, List.set_cons_zero, List.set_cons_succ])
                refine wpAnyIn_done (by kernel_rfl) ?_ _
              all_goals
                have HX7 := Lib.hid (show Ext wb w7 from X7.out)
                rcases hB with ⟨rfl, hJ3, hk3⟩ | ⟨rfl, hJ3, hk3⟩
                · have HK3 := Lib.hid ((HKB.out.then_ HX7.out).trans (hk3.mono fun k hk => .inr hk))
                  have HT3 := Lib.hid ((HTB.out.then_ HX7.out).trans (hk3.mono fun k hk => .inl hk))
                  have HJ3 := Lib.hid (show J (sn sq (es.take (k + 1))).1 T (fun _ => False) W3 from by rw [HS1.out]; exact hJ3)
                  clear hJ3 hk3 hy hRd
                  gi_wp2
                  go_roundw
                  case rel => exact ⟨k + 1, _, by go_num, by omega, rfl, HJ3, HK3, HT3, Lib.hid (.inr ⟨gg, k, hkn, rfl, HGT.out, Nat.lt_succ_self k, by rw [HKY.out, HXK.out], HD0.out⟩)⟩
                  case measure => simp [intOf]; omega
                · have HJ3 := Lib.hid hJ3
                  clear hJ3 hk3 hy hRd
                  gi_wp2
                  refine bodyPost_ret (results_none rfl _ _ _) rfl ?_
                  exact ⟨⟨_, rfl⟩, .inr (by first | exact ⟨_, T, _, by rw [← HS1.out]; exact HPF.out, HJ3.out⟩ | exact ⟨_, by rw [← HS1.out]; exact HPF.out, T, _, HJ3.out⟩)⟩
            · have hdk : (x.kind == 1) = false := by simp [hkd]
              have HS1 : Hid ((sn sq (es.take (k + 1))).1 = (sn sq (es.take k)).1) := Lib.hid (by rw [HSN2.out]; unfold snStep; rw [if_neg HNEW.out]; simp only; rw [if_neg hkd])
              clear hkd
              gi_wp2
              refine wpIn_region_any (by kernel_rfl) ?_
              (try (change wpAnyIn _ _ _ _ _ _ _ _ _ (World.drew _)))
              refine wpAnyIn_take (i := 0) (oi := ({ dst := some 30, op := Go.Op.fieldAddr 37 (Go.Operand.tmp 6) 2, type := 0, pos := "merge.go:98", after := #[], guard := none } : Go.Oper)) (v := ?v33) rfl rfl (by kernel_rfl) (by kernel_rfl) (by kernel_rfl) (fun _ _ _ h => h) ⟨Or.inl ⟨by rfl, ?hy33⟩, fun _ => rfl⟩ ?rest33
              case hy33 => (intro w; go_simp; (try with_reducible rfl))
              (try simp only [Act.put, List.getElem_toArray, List.getElem_cons_zero, List.getElem_cons_succ, List.setIfInBounds_toArray, List.set_cons_zero, List.set_cons_succ])
              refine wpAnyIn_ready (rs := [1]) (by kernel_rfl) (by simp) ?_
              refine AllReadyIn.cons (o := ({ dst := some 31, op := Go.Op.load 35 (Go.Operand.tmp 30), type := 35, pos := "merge.go:98", after := #[{ on := 0, ground := Go.Ground.data }], guard := none } : Go.Oper)) rfl (fun K hK => ?_) AllReadyIn.nil
              go_simp
              refine hK _ _ ?_
              clear hK K
              (try simp only [Act.put, List.getElem_toArray, List.getElem_cons_zero, List.getElem_cons_succ, List.setIfInBounds_toArray, List.set_cons_zero, List.set_cons_succ])
              refine wpAnyIn_take (i := 2) (oi := ({ dst := some 32, op := Go.Op.binOp Go.BinOp.eql 35 (Go.Operand.tmp 31) (Go.Operand.const (Go.Value.int Go.IntKind.i64 1)) 35, type := 4, pos := "merge.go:98", after := #[{ on := 1, ground := Go.Ground.data }], guard := none } : Go.Oper)) (v := ?v34) rfl rfl (by kernel_rfl) (by kernel_rfl) (by kernel_rfl) (fun _ _ _ h => h) ⟨Or.inl ⟨by rfl, ?hy34⟩, fun _ => rfl⟩ ?rest34
              case hy34 => (intro w; go_simp; (try with_reducible rfl))
              (try simp only [Act.put, List.getElem_toArray, List.getElem_cons_zero, List.getElem_cons_succ, List.setIfInBounds_toArray, List.set_cons_zero, List.set_cons_succ])
              refine wpAnyIn_take (i := 3) (oi := ({ dst := some 33, op := Go.Op.move (Go.Operand.tmp 32), type := 4, pos := "merge.go:98", after := #[{ on := 2, ground := Go.Ground.data }], guard := none } : Go.Oper)) (v := ?v35) rfl rfl (by kernel_rfl) (by kernel_rfl) (by kernel_rfl) (fun _ _ _ h => h) ⟨Or.inl ⟨by rfl, ?hy35⟩, fun _ => rfl⟩ ?rest35
              case hy35 => (intro w; go_simp; (try with_reducible rfl))
              (try simp only [Act.put, List.getElem_toArray, List.getElem_cons_zero, List.getElem_cons_succ, List.setIfInBounds_toArray, List.set_cons_zero, List.set_cons_succ])
              refine wpAnyIn_take (i := 4) (oi := ({ dst := some 34, op := Go.Op.move (Go.Operand.tmp 0), type := 57, pos := "merge.go:98", after := #[{ on := 3, ground := Go.Ground.guard }], guard := some (3, true) } : Go.Oper)) (v := undef) rfl rfl (by kernel_rfl) (by kernel_rfl) (by kernel_rfl) (fun _ _ _ h => h) ⟨Or.inr ⟨by rfl, rfl⟩, fun _ => rfl⟩ ?_
              (try simp only [Act.put, List.getElem_toArray, List.getElem_cons_zero, List.getElem_cons_succ, List.setIfInBounds_toArray, List.set_cons_zero, List.set_cons_succ])
              refine wpAnyIn_take (i := 5) (oi := ({ dst := some 35, op := Go.Op.fieldAddr 37 (Go.Operand.tmp 6) 0, type := 0, pos := "merge.go:98", after := #[{ on := 3, ground := Go.Ground.guard }], guard := some (3, true) } : Go.Oper)) (v := undef) rfl rfl (by kernel_rfl) (by kernel_rfl) (by kernel_rfl) (fun _ _ _ h => h) ⟨Or.inr ⟨by rfl, rfl⟩, fun _ => rfl⟩ ?_
              (try simp only [Act.put, List.getElem_toArray, List.getElem_cons_zero, List.getElem_cons_succ, List.setIfInBounds_toArray, List.set_cons_zero, List.set_cons_succ])
              refine wpAnyIn_take (i := 6) (oi := ({ dst := some 36, op := Go.Op.load 23 (Go.Operand.tmp 35), type := 23, pos := "merge.go:98", after := #[{ on := 5, ground := Go.Ground.data }, { on := 3, ground := Go.Ground.guard }], guard := some (3, true) } : Go.Oper)) (v := undef) rfl rfl (by kernel_rfl) (by kernel_rfl) (by kernel_rfl) (fun _ _ _ h => h) ⟨Or.inr ⟨by rfl, rfl⟩, fun _ => rfl⟩ ?_
              (try simp only [Act.put, List.getElem_toArray, List.getElem_cons_zero, List.getElem_cons_succ, List.setIfInBounds_toArray, List.set_cons_zero, List.set_cons_succ])
              refine wpAnyIn_take (i := 8) (oi := ({ dst := some 38, op := Go.Op.fieldAddr 37 (Go.Operand.tmp 6) 3, type := 0, pos := "merge.go:98", after := #[{ on := 3, ground := Go.Ground.guard }], guard := some (3, true) } : Go.Oper)) (v := undef) rfl rfl (by kernel_rfl) (by kernel_rfl) (by kernel_rfl) (fun _ _ _ h => h) ⟨Or.inr ⟨by rfl, rfl⟩, fun _ => rfl⟩ ?_
              (try simp only [Act.put, List.getElem_toArray, List.getElem_cons_zero, List.getElem_cons_succ, List.setIfInBounds_toArray, List.set_cons_zero, List.set_cons_succ])
              refine wpAnyIn_take (i := 9) (oi := ({ dst := some 39, op := Go.Op.load 23 (Go.Operand.tmp 38), type := 23, pos := "merge.go:98", after := #[{ on := 8, ground := Go.Ground.data }, { on := 3, ground := Go.Ground.guard }], guard := some (3, true) } : Go.Oper)) (v := undef) rfl rfl (by kernel_rfl) (by kernel_rfl) (by kernel_rfl) (fun _ _ _ h => h) ⟨Or.inr ⟨by rfl, rfl⟩, fun _ => rfl⟩ ?_
              (try simp only [Act.put, List.getElem_toArray, List.getElem_cons_zero, List.getElem_cons_succ, List.setIfInBounds_toArray, List.set_cons_zero, List.set_cons_succ])
              refine wpAnyIn_ready (rs := [7]) (by kernel_rfl) (by simp) ?_
              refine AllReadyIn.cons (o := ({ dst := some 37, op := Go.Op.call { callee := Go.Callee.value (Go.Operand.func 33), args := #[Go.Operand.tmp 36], argTypes := #[23] }, type := 23, pos := "merge.go:98", after := #[{ on := 6, ground := Go.Ground.data }, { on := 3, ground := Go.Ground.chain }, { on := 3, ground := Go.Ground.guard }], guard := some (3, true) } : Go.Oper)) rfl (fun K hK => ?_) AllReadyIn.nil
              go_simp
              (first | refine ⟨fun _ h => (by cases h), ?_⟩ | refine ⟨trivial, ?_⟩ | refine ⟨fun _ _ => trivial, ?_⟩)
              refine hK _ _ ?_
              clear hK K
              (try simp only [Act.put, List.getElem_toArray, List.getElem_cons_zero, List.getElem_cons_succ, List.setIfInBounds_toArray, List.set_cons_zero, List.set_cons_succ])
              refine wpAnyIn_ready (rs := [10]) (by kernel_rfl) (by simp) ?_
              refine AllReadyIn.cons (o := ({ dst := some 40, op := Go.Op.call { callee := Go.Callee.value (Go.Operand.func 33), args := #[Go.Operand.tmp 39], argTypes := #[23] }, type := 23, pos := "merge.go:98", after := #[{ on := 9, ground := Go.Ground.data }, { on := 7, ground := Go.Ground.chain }, { on := 3, ground := Go.Ground.guard }], guard := some (3, true) } : Go.Oper)) rfl (fun K hK => ?_) AllReadyIn.nil
              go_simp
              (first | refine ⟨fun _ h => (by cases h), ?_⟩ | refine ⟨trivial, ?_⟩ | refine ⟨fun _ _ => trivial, ?_⟩)
              refine hK _ _ ?_
              clear hK K
              (try simp only [Act.put, List.getElem_toArray, List.getElem_cons_zero, List.getElem_cons_succ, List.setIfInBounds_toArray, List.set_cons_zero, List.set_cons_succ])
              refine wpAnyIn_take (i := 11) (oi := ({ dst := some 41, op := Go.Op.build 47 #[(0, Go.Operand.tmp 37), (1, Go.Operand.tmp 40)], type := 47, pos := "merge.go:98", after := #[{ on := 7, ground := Go.Ground.data }, { on := 10, ground := Go.Ground.data }, { on := 3, ground := Go.Ground.guard }], guard := some (3, true) } : Go.Oper)) (v := undef) rfl rfl (by kernel_rfl) (by kernel_rfl) (by kernel_rfl) (fun _ _ _ h => h) ⟨Or.inr ⟨by rfl, rfl⟩, fun _ => rfl⟩ ?_
              (try simp only [Act.put, List.getElem_toArray, List.getElem_cons_zero, List.getElem_cons_succ, List.setIfInBounds_toArray, List.set_cons_zero, List.set_cons_succ])
              refine wpAnyIn_ready (rs := [12]) (by kernel_rfl) (by simp) ?_
              refine AllReadyIn.cons (o := ({ dst := some 42, op := Go.Op.call { callee := Go.Callee.value (Go.Operand.tmp 34), args := #[Go.Operand.tmp 41], argTypes := #[47] }, type := 4, pos := "merge.go:98", after := #[{ on := 4, ground := Go.Ground.data }, { on := 11, ground := Go.Ground.data }, { on := 10, ground := Go.Ground.chain }, { on := 3, ground := Go.Ground.guard }], guard := some (3, true) } : Go.Oper)) rfl (fun K hK => ?_) AllReadyIn.nil
              go_simp
              (first | refine ⟨fun _ h => (by cases h), ?_⟩ | refine ⟨trivial, ?_⟩ | refine ⟨fun _ _ => trivial, ?_⟩)
              refine hK _ _ ?_
              clear hK K
              (try simp only [Act.put, List.getElem_toArray, List.getElem_cons_zero, List.getElem_cons_succ, List.setIfInBounds_toArray, List.set_cons_zero, List.set_cons_succ])
              refine wpAnyIn_take (i := 13) (oi := ({ dst := some 43, op := Go.Op.unOp Go.UnOp.not 4 (Go.Operand.tmp 42), type := 4, pos := "merge.go:98", after := #[{ on := 12, ground := Go.Ground.data }, { on := 3, ground := Go.Ground.guard }], guard := some (3, true) } : Go.Oper)) (v := undef) rfl rfl (by kernel_rfl) (by kernel_rfl) (by kernel_rfl) (fun _ _ _ h => h) ⟨Or.inr ⟨by rfl, rfl⟩, fun _ => rfl⟩ ?_
              (try simp only [Act.put, List.getElem_toArray, List.getElem_cons_zero, List.getElem_cons_succ, List.setIfInBounds_toArray, List.set_cons_zero, List.set_cons_succ])
              refine wpAnyIn_take (i := 14) (oi := ({ dst := some 44, op := Go.Op.pick (Go.Operand.tmp 33) (Go.Operand.tmp 43) (Go.Operand.const (Go.Value.bool false)), type := 4, pos := "merge.go:98", after := #[{ on := 3, ground := Go.Ground.data }, { on := 13, ground := Go.Ground.data }], guard := none } : Go.Oper)) (v := ?v36) rfl rfl (by kernel_rfl) (by kernel_rfl) (by kernel_rfl) (fun _ _ _ h => h) ⟨Or.inl ⟨by rfl, ?hy36⟩, fun _ => rfl⟩ ?rest36
              case hy36 => (intro w; go_simp; (try with_reducible rfl))
              (try simp only [Act.put, List.getElem_toArray, List.getElem_cons_zero, List.getElem_cons_succ, List.setIfInBounds_toArray, List.set_cons_zero, List.set_cons_succ])
              refine wpAnyIn_done (by kernel_rfl) ?_ _
              all_goals
                have HJZ := Lib.hid (hJ _ _ T _ (fun _ => False) _ wb.drew HJB.out (Kept.of_ext (Ext.drew (Ext.rfl_ _))) (U8.of_ext (Ext.drew (Ext.rfl_ _))) (fun _ h => h) (fun _ h => .inl h) (fun _ h => h) (fun _ h => .inl h))
                gi_wp2
                go_roundw
                case rel => exact ⟨k + 1, _, by go_num, by omega, rfl, Lib.hid (by rw [HS1.out]; exact HJZ.out), Lib.hid (HKB.out.then_ (Ext.drew (Ext.rfl_ _))), Lib.hid (HTB.out.then_ (Ext.drew (Ext.rfl_ _))), Lib.hid (.inr ⟨gg, k, hkn, rfl, HGT.out, Nat.lt_succ_self k, by rw [HKY.out, HXK.out], HD0.out⟩)⟩
                case measure => simp [intOf]; omega

end Go.Proofs.Ytmmoopioiheleaa
