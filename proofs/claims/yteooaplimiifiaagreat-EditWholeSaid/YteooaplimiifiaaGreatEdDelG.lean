/- slices.DeleteFunc of tables, for any function of them. Conditions: the list is the call's own; the function keeps what it needs. -/
import Derived.Test.YteooaplimiifiaaGreatEdDelF
namespace Go.Proofs.YteooaplimiifiaaGreat
set_option linter.unusedSimpArgs false
set_option linter.unusedVariables false
set_option maxRecDepth 100000
open Go.RowKit

/-- The pairs of a row, the first i of them kept of the first j. -/
def KeptQ (p : Tab → Bool) (L0 L : List Pr) (i j : Nat) : Prop :=
  L.length = L0.length ∧ i < j ∧ j ≤ L0.length ∧ (L.take i).map Prod.snd = ((L0.take j).map Prod.snd).filter (fun t => !p t) ∧ L.drop j = L0.drop j
theorem KeptQ.at_ {p : Tab → Bool} {L0 L : List Pr} {i j : Nat} (h : KeptQ p L0 L i j) (hj : j < L0.length) : ∃ h1 : j < L.length, L[j] = L0[j] := by
  obtain ⟨h1, h2, h3, h4, h5⟩ := h
  refine ⟨by omega, ?_⟩
  have e := congrArg (fun l => l[0]?) h5
  simp only [List.getElem?_drop, Nat.add_zero] at e
  rw [List.getElem?_eq_getElem (by omega), List.getElem?_eq_getElem hj] at e
  exact Option.some.inj e
theorem KeptQ.pass {p : Tab → Bool} {L0 L : List Pr} {i j : Nat} (h : KeptQ p L0 L i j) (hj : j < L0.length) (hp : p L0[j].2 = true) : KeptQ p L0 L i (j + 1) := by
  obtain ⟨h1, h2, h3, h4, h5⟩ := h
  refine ⟨h1, by omega, by omega, ?_, ?_⟩
  · rw [h4, List.take_succ_eq_append_getElem hj, List.map_append, List.filter_append]
    simp [hp]
  · rw [← List.drop_drop, h5, List.drop_drop]
theorem KeptQ.keep {p : Tab → Bool} {L0 L : List Pr} {i j : Nat} (h : KeptQ p L0 L i j) (hj : j < L0.length) (hp : p L0[j].2 = false) : KeptQ p L0 (L.set i L0[j]) (i + 1) (j + 1) := by
  obtain ⟨h1, h2, h3, h4, h5⟩ := h
  refine ⟨by simpa using h1, by omega, by omega, ?_, ?_⟩
  · rw [List.take_succ_eq_append_getElem hj, List.map_append, List.filter_append, ← h4]
    have e : (L.set i L0[j]).take (i + 1) = L.take i ++ [L0[j]] := by
      rw [List.take_succ_eq_append_getElem (by simp; omega)]
      simp [List.take_set_of_le (Nat.le_refl _)]
    rw [e]
    simp [hp]
  · rw [List.drop_set_of_lt (by omega), ← List.drop_drop, h5, List.drop_drop]
theorem KeptQ.start {p : Tab → Bool} {L0 : List Pr} {ts : List Tab} (hs : L0.map Prod.snd = ts) (h : idxQ p ts < ts.length) : KeptQ p L0 L0 (idxQ p ts) (idxQ p ts + 1) := by
  have hl : L0.length = ts.length := by rw [← hs]; simp
  refine ⟨rfl, by omega, by omega, ?_, rfl⟩
  have e : (L0.take (idxQ p ts + 1)).map Prod.snd = ts.take (idxQ p ts) ++ [ts[idxQ p ts]] := by
    rw [List.map_take, hs, List.take_succ_eq_append_getElem h]
  have e1 : (ts.take (idxQ p ts)).filter (fun t => !p t) = ts.take (idxQ p ts) := by
    rw [List.filter_eq_self]
    intro u hu
    rw [idxQ_head u hu]; rfl
  rw [e, List.filter_append, e1, List.map_take, hs]
  simp [idxQ_hit (List.getElem?_eq_getElem h)]
theorem KeptQ.done {p : Tab → Bool} {L0 L : List Pr} {i : Nat} {ts : List Tab} (hs : L0.map Prod.snd = ts) (h : KeptQ p L0 L i ts.length) : (L.take i).map Prod.snd = ts.filter (fun t => !p t) := by
  have hl : L0.length = ts.length := by rw [← hs]; simp
  rw [h.2.2.2.1, ← hl, List.take_length, hs]
theorem elP_set {L : List Pr} {i j : Nat} {w : World} {base : Nat} (h : ElP w base L) (hj : j < L.length) : ElP w base (L.set i L[j]) := by
  intro q hq
  rcases List.mem_or_eq_of_mem_set hq with hq | rfl
  · exact h q hq
  · exact h _ (List.getElem_mem _)

set_option maxRecDepth 100000 in
set_option maxHeartbeats 8000000 in
theorem delf_any (base : Nat) (v : Value) (ts : List Tab) (g : Nat) (cb : Array Value) (p : Tab → Bool) (Inv : World → Prop) (w : World) (hO : OwnT w base v ts) (hn : ts.length ≤ 1000000)
    (eg : ∀ args w, (callFunc g args).run Tryz.prog w = .ok (.enter g args) w) (hs : SaysT g cb p Inv) (hk : KeepsT v.ownBlock Inv) (hi : Inv w) :
    Calls Tryz.prog 18 #[v, .func (.func g) #[] cb] w fun e w' => ∃ v', e = .returned v' ∧ OwnT w' base v' (ts.filter (fun t => !p t)) ∧ w.grownBy w' v.ownBlock ∧ Inv w' := by
  have hk0 : KeepsT none Inv := fun w1 w2 h1 h2 => hk w1 w2 h1 ⟨h2.os, h2.tape, h2.output, h2.size, fun k hk _ => h2.block k hk (by simp)⟩
  obtain ⟨A, c, hv, hc, hrd, hhi, _⟩ := hO.form (by unfold B47; omega)
  have hl := idxQ_le p ts
  by_cases hx : idxQ p ts < ts.length
  rotate_left
  · have hR : idxQR p ts ts.length = -1 := by unfold idxQR; rw [if_neg hx]
    have hF : ts.filter (fun t => !p t) = ts := by
      rw [List.filter_eq_self]
      intro u hu
      have h := idxQ_head (p := p) (ts := ts) u (by rw [List.take_of_length_le (by omega)]; exact hu)
      rw [h]; rfl
    rw [hF]
    subst hv
    have hcon := idxq_any A ts.length c ts g cb p Inv w hrd eg hs hk0 hi
    rw [hR] at hcon
    have HO := Lib.hid hO
    have HI := Lib.hid hi
    have HK := Lib.hid hk
    clear hO hrd hs hk0 hk hi hl hx hR hF
    go_enter Tryz.func18, Tryz.ntmps18
    go_wp2_with (go_at_call 45; refine hcon.mono ?_; rintro e w1 ⟨rfl, hw1⟩)
    go_ret
    exact ⟨_, rfl, HO.out.ext hw1, hw1.grownBy _, HK.out _ _ HI.out (hw1.grownBy _)⟩
  have hR : idxQR p ts ts.length = (idxQ p ts : Int) := by unfold idxQR; rw [if_pos hx]
  obtain ⟨b, cap, L0, tail, hv2, hb, hrow, hL0, hE0, hcap, hmx, htl⟩ := hO.row (by
    intro e
    rw [e] at hv
    injection hv with _ h0 _
    omega)
  rw [hv2] at hv
  injection hv with hA hn1 hc1
  subst hA hc1
  have hob : v.ownBlock = some b := by rw [hv2]; rfl
  rw [hob] at hk ⊢
  have hcon := idxq_any _ ts.length cap ts g cb p Inv w hrd eg hs hk0 hi
  rw [hR] at hcon
  have hst := KeptQ.start (p := p) hL0 hx
  have hl0 : L0.length = ts.length := by rw [← hL0]; simp
  generalize idxQ p ts = i0 at hcon hst hx hl
  have HL := Lib.hid hL0
  have HS := Lib.hid hs
  have HK := Lib.hid hk
  have HI := Lib.hid hi
  have HRW := Lib.hid hrow
  have HE0 := Lib.hid hE0
  have HST := Lib.hid hst
  have HMX := Lib.hid hmx
  have HTL := Lib.hid htl
  have HL0 := Lib.hid hl0
  subst hv2
  clear hO hrd hs hk0 hk hi hl hR hL0 hrow hE0 hst hob hmx htl hl0 hhi
  have hz : ((i0 : Int) == -1) = false := by simp
  go_enter Tryz.func18, Tryz.ntmps18
  go_wp2_with (go_at_call 45; refine hcon.mono ?_; rintro e w1 ⟨rfl, hw1⟩)
  have HRW1 := Lib.hid (HRW.out.ext hw1)
  have HE1 := Lib.hid (HE0.out.ext hw1)
  go_loopw [5, 6] (fun i j wr => ∃ i' j' : Nat, i = .int .i64 i' ∧ j = .int .i64 j' ∧ Hid (∃ L, KeptQ p L0 L i' j' ∧ RowP wr b L tail ∧ ElP wr base L) ∧ i' < j' ∧ j' ≤ ts.length ∧ w.grownBy wr (some b)) (fun _ j _ => ts.length - (intOf j).toNat)
  case atStart => exact ⟨i0, i0 + 1, rfl, by simp, Lib.hid ⟨L0, HST.out, HRW1.out, HE1.out⟩, by omega, by omega, hw1.grownBy _⟩
  case round =>
    obtain ⟨i', j', rfl, rfl, HX, hij, hj, hG⟩ := hrel
    obtain ⟨L, hq, hrw, hel⟩ := HX.out
    clear HX
    by_cases cc : (j' : Int) < (ts.length : Int)
    rotate_left
    · have ej : j' = ts.length := by omega
      subst ej
      have hkl : L.length = ts.length := by rw [hq.1, HL0.out]
      have HDN := Lib.hid (hq.done HL.out)
      have HEL := Lib.hid hel
      have HRW2 := Lib.hid hrw
      have hii : i' < ts.length := by omega
      have hlen : L.length = i' + (ts.length - i') := by omega
      have hlt : (L.take i').length = i' := by rw [List.length_take]; omega
      have HKL := Lib.hid hkl
      have HLT := Lib.hid hlt
      have HLEN := Lib.hid hlen
      clear hrw hel hq hkl hlt hlen cc
      obtain ⟨w2, tail2, hrun, h2, h2l, g2⟩ := HRW2.out.clear i' (ts.length - i') (cap - i') 0 HLEN.out
      have HR2 := Lib.hid h2
      have HTL2 := Lib.hid h2l
      clear h2 h2l
      go_wp2
      go_ret
      refine ⟨_, rfl, ?_, hG.trans_ g2, HK.out _ _ HI.out (hG.trans_ g2)⟩
      have hfin := OwnT.of_row HR2.out hb (fun q hq => (HEL.out.row g2 HRW2.out hb) q (List.mem_of_mem_take hq)) (cap := cap) (by rw [HLT.out]; omega) HMX.out (by rw [HTL2.out, HLT.out]; have := HTL.out; omega)
      rw [HLT.out, HDN.out] at hfin
      exact hfin
    have hjl : j' < L0.length := by rw [HL0.out]; omega
    obtain ⟨hjL, hat⟩ := hq.at_ hjl
    have hiL : i' < L.length := by omega
    obtain ⟨q0, q1, q2, q3, q4⟩ := hrw.cells j' hjL
    have hrdt : RdT wr (.agg (cellsP L[j']).toArray) L[j'].2 := (hel _ (List.getElem_mem hjL)).1
    have hK1 := fun hp => hq.pass hjl hp
    have hK2 := fun hp => hq.keep hjl hp
    rw [← hat] at hK1 hK2
    have hmem := elP_set (i := i') hel hjL
    generalize hqe : L[j'] = q at q0 q1 q2 q3 q4 hrdt hK1 hK2 hmem
    have hcl : ∀ W, Ext wr W → Calls Tryz.prog g (#[Value.agg #[.int .i64 q.2.num, .int .i64 q.2.lvl, .slice q.1.A q.1.n q.1.c, .slice q.1.B q.1.m q.1.d, .int .i64 q.2.size]] ++ cb) W fun e w' => e = .returned (.bool (p q.2)) ∧ Ext W w' := fun W hW =>
      HS.out _ q.2 W (HK.out _ _ HI.out (hG.trans_ (hW.grownBy _))) (hrdt.ext hW)
    have HCL := Lib.hid hcl
    have HBX := Lib.hid (heap_alloc_new wr (.cells #[.int .i64 q.2.num, .int .i64 q.2.lvl, .slice q.1.A q.1.n q.1.c, .slice q.1.B q.1.m q.1.d, .int .i64 q.2.size] 42))
    have HQ := Lib.hid hq
    have HRW2 := Lib.hid hrw
    have HEL := Lib.hid hel
    have HK1 := Lib.hid hK1
    have HK2 := Lib.hid hK2
    have HMM := Lib.hid hmem
    have HLL := Lib.hid hiL
    clear hq hrw hel hK1 hK2 hmem hcl hat hqe hrdt hjL hiL hjl
    go_wp2_with fail
    refine (HCL.out _ (by with_reducible (repeat (first | exact Ext.rfl_ _ | assumption | refine Ext.drew ?_ | refine Ext.drewN ?_ _ | refine Ext.alloc ?_ _ | refine Ext.trans ?_ (by assumption))))).mono ?_
    rintro e w2 ⟨rfl, hw2⟩
    obtain ⟨z0, z1, z2, z3, z4, f0, f1, f2, f3, f4⟩ := box5 HBX.out hw2
    have X2 : Hid (Ext wr w2) := Lib.hid (Ext.trans (Ext.alloc (Ext.rfl_ wr) _) hw2)
    have HR3 := Lib.hid (HRW2.out.ext X2.out)
    have HG2 := Lib.hid (hG.trans_ (X2.out.grownBy (some b)))
    by_cases hp : p q.2 = true
    · have HP := Lib.hid (HK1.out hp)
      rw [hp]
      clear hp
      go_wp2

      go_roundw
      case rel => exact ⟨i', j' + 1, rfl, by simp, Lib.hid ⟨L, HP.out, HR3.out, HEL.out.ext X2.out⟩, by omega, by omega, HG2.out⟩
      case measure => simp [intOf]; omega
    · have hp' : p q.2 = false := by simpa using hp
      have HP := Lib.hid (HK2.out hp')
      rw [hp']
      clear hp hp'
      go_wp2_with (refine wp_storeP rfl _ _ rfl b L tail HR3.out i' HLL.out q _ rfl rfl rfl ?_; intro w3 h3 g3; have H3 := Lib.hid h3; clear h3)
      go_roundw
      case rel => exact ⟨i' + 1, j' + 1, by simp, by simp, Lib.hid ⟨_, HP.out, H3.out, (HMM.out.ext X2.out).row g3 HR3.out hb⟩, by omega, by omega, HG2.out.trans_ g3⟩
      case measure => simp [intOf]; omega

end Go.Proofs.YteooaplimiifiaaGreat
