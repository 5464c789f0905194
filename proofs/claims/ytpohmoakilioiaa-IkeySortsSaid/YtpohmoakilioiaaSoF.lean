/- The reference's Sort of entries. Conditions of the general walk: what CopyList hands over is a row. Conditions: the row is there. -/
import Derived.Test.YtpohmoakilioiaaSoE
namespace Go.Proofs.Ytpohmoakilioiaa
set_option linter.unusedSimpArgs false
set_option linter.unusedVariables false
set_option maxRecDepth 100000
open Go.Shelf Go.RowKit Go.Lib Go.Sort

theorem insOuter_zero {α : Type} [Inhabited α] (lt : α → α → Bool) (b : Nat) (d : Array α) : insOuter lt 0 b 0 d = insertionSort lt d 0 b := by
  unfold insertionSort
  rw [insOuter]
  split
  · rfl
  · rw [insOuter, if_neg (by omega)]

/-- What CopyList hands over, and what is wanted of the end. -/
def ClPost (P : Program) (k : Nat) (Q : Ending → World → Prop) (e : Ending) (w1 : World) : Prop :=
  (e = .returned (.slice none 0 0) ∧ Q (.returned (.slice none 0 0)) w1) ∨
  ∃ (α : Type) (_ : Inhabited α) (enc : α → List Value) (cf : α → α → Int) (blk off cap : Nat) (d : Array α), e = .returned (.slice (some ⟨blk, off, none⟩) d.size cap) ∧ RowK enc k w1 blk off d ∧ CmpLays P 27 #[] enc k cf blk off d.size w1 ∧ d.size < 1099511627776 ∧ d.size ≤ cap ∧
    ∀ w', SWK enc k w1 blk off (insertionSort (ltOf cf) d 0 d.size) w' → Q (.returned (.slice (some ⟨blk, off, none⟩) d.size cap)) w'

set_option maxHeartbeats 8000000 in
set_option maxRecDepth 1000000 in
theorem rsort_gen {P : Program} (k : Nat) (L : LyT P k) (hF : P.funcs[45]? = some Try.f45) (eCL : ∀ args w, (callFunc 43 args).run P w = .ok (.enter 43 args) w) (eg : ∀ args w, (callFunc 27 args).run P w = .ok (.enter 27 args) w)
    (arg : Value) (w : World) (Q : Ending → World → Prop) (hcl : Calls P 43 #[arg] w (ClPost P k Q)) : Calls P 45 #[arg] w Q := by
  have mixed := L.mixed
  have tV := L.tV; have aV := L.aV; have zV := L.zV; have vV := L.vV
  have tI := L.tI; have aI := L.aI; have zI := L.zI; have vI := L.vI
  have tB := L.tB; have aB := L.aB; have zB := L.zB; have vB := L.vB
  have tS := L.tS; have aS := L.aS; have zS := L.zS; have vS := L.vS
  have tF := L.tF; have aF := L.aF; have zF := L.zF; have vF := L.vF
  have tU := L.tU; have aU := L.aU; have zU := L.zU; have vU := L.vU
  have aE := L.aE; have zE := L.zE
  go_enter hF, Try.ntmps45
  go_wp2_with fail
  refine hcl.mono ?_
  intro e w0 hcl1
  rcases hcl1 with ⟨rfl, hQ⟩ | ⟨α, ia, enc, cf, blk, off, cap, d, rfl, R, hcmp, hsz, hcap, hQ⟩
  · have HQ : Hid _ := hQ
    clear hQ
    go_wp2
    go_loopg [4] 0 (fun g1 vi wr => vi = .int .i64 0 ∧ wr = w0)
    case atStart => exact ⟨rfl, rfl⟩
    case round =>
      obtain ⟨rfl, rfl⟩ := hrel
      go_wp2
      exact HQ.out
  · have HC : Aside _ := hcmp
    have HQ : Hid _ := hQ
    have hs : d.size = d.size := rfl
    have S0 : Aside (SWK enc k w0 blk off d w0) := SWK.start R.hH
    clear hQ hcmp
    go_wp2
    go_loopg [4] (d.size + 1) (fun g1 vi wr => ∃ (i : Nat) (dk : Array α), vi = .int .i64 i ∧ i ≤ d.size ∧ d.size - i ≤ g1 ∧ dk.size = d.size ∧ Aside (SWK enc k w0 blk off dk wr) ∧ Hid (insOuter (ltOf cf) 0 d.size i dk = insOuter (ltOf cf) 0 d.size 0 d))
    case atStart => exact ⟨0, d, rfl, Nat.zero_le _, by omega, rfl, S0, rfl⟩
    case round =>
      clear S0
      obtain ⟨i, dk, rfl, hib, hg1, hsk, SK, HO⟩ := hrel
      by_cases hlt : i < d.size
      · have hltz : (i : Int) < (d.size : Int) := by omega
        have hicz : (i : Int) < (cap : Int) := by omega
        go_wp2
        go_loopg [5] i (fun g2 vj wr2 => ∃ (j : Nat) (dj : Array α), vj = .int .i64 j ∧ j ≤ i ∧ j ≤ g2 ∧ dj.size = d.size ∧ Aside (SWK enc k w0 blk off dj wr2) ∧ Hid (insInner (ltOf cf) 0 j dj = insInner (ltOf cf) 0 i dk))
        case atStart => exact ⟨i, dk, rfl, Nat.le_refl _, Nat.le_refl _, hsk, SK, rfl⟩
        case round =>
          clear SK
          obtain ⟨j, dj, rfl, hji, hg2, hsj, S1, HI⟩ := hrel
          have out : (j ≤ 0 ∨ ltOf cf dj[j]! dj[j - 1]! = false) → Hid (insOuter (ltOf cf) 0 d.size (i + 1) dj = insOuter (ltOf cf) 0 d.size 0 d) := fun hs => by
            show _ = _
            rw [← HO.out, insOuter_go _ _ _ _ _ hlt, ← HI.out, insInner_stop _ _ _ _ hs]
          have OUT : Aside _ := out
          clear out
          by_cases hja : 0 < j
          · obtain ⟨jp, rfl⟩ : ∃ jp, j = jp + 1 := ⟨j - 1, by omega⟩
            have hjaz : (0 : Int) < (jp : Int) + 1 := by omega
            have hjm : (jp : Int) + 1 - 1 = (jp : Int) := by omega
            have jz : (jp : Int) + 1 < (d.size : Int) := by omega
            have jz1 : (jp : Int) < (d.size : Int) := by omega
            cases hL : ltOf cf dj[jp + 1]! dj[jp]! with
            | true =>
              go_wp2_with fail
              have ea6 : ((jp : Int) + 1).toNat = jp + 1 := by omega
              have pa6 : (0 : Int) ≤ (jp : Int) + 1 := by omega
              have ba6 : (jp : Int) + 1 < (d.size : Int) := by omega
              have ra6 : IntKind.i64.wrap ((jp : Int) + 1) = (jp : Int) + 1 := by rw [IntKind.wrap_i64]; omega
              have ec6 : ((jp : Int)).toNat = jp := by omega
              have pc6 : (0 : Int) ≤ (jp : Int) := by omega
              have bc6 : (jp : Int) < (d.size : Int) := by omega
              have rc6 : IntKind.i64.wrap ((jp : Int)) = (jp : Int) := by rw [IntKind.wrap_i64]; omega
              obtain ⟨x6, hx6⟩ : ∃ x, x = dj[jp + 1]! := ⟨_, rfl⟩
              obtain ⟨y6, hy6⟩ : ∃ x, x = dj[jp]! := ⟨_, rfl⟩
              have l6a := S1.out.ld R (by omega) P (jp + 1) (by omega)
              have l6b := S1.out.ld R (by omega) P (jp) (by omega)
              rw [← hx6] at l6a
              rw [← hy6] at l6b
              have hc6 := S1.out.cmp HC.out (by omega) x6 y6
              simp only [Array.append_empty] at hc6
              have hv6 : cf x6 y6 < 0 := by rw [hx6, hy6]; exact of_decide_eq_true hL
              have hd6 : decide (cf x6 y6 < 0) = true := decide_eq_true hv6
              clear hx6 hy6
              go_wp2_with fail
              go_quiet_grown (first | (go_at_fn 27; refine Calls.grown_of (hc6 _ _)))
              have S2 : Aside (SWK enc k w0 blk off dj (grow (wr.drewN nq) osq)) := S1.out.grown nq osq
              clear l6a l6b hc6 S1
              generalize grow (wr.drewN nq) osq = w2 at S2 ⊢
              clear nq osq
              go_wp2_with fail
              have ea7 : ((jp : Int) + 1).toNat = jp + 1 := by omega
              have pa7 : (0 : Int) ≤ (jp : Int) + 1 := by omega
              have ba7 : (jp : Int) + 1 < (d.size : Int) := by omega
              have ra7 : IntKind.i64.wrap ((jp : Int) + 1) = (jp : Int) + 1 := by rw [IntKind.wrap_i64]; omega
              have ec7 : ((jp : Int)).toNat = jp := by omega
              have pc7 : (0 : Int) ≤ (jp : Int) := by omega
              have bc7 : (jp : Int) < (d.size : Int) := by omega
              have rc7 : IntKind.i64.wrap ((jp : Int)) = (jp : Int) := by rw [IntKind.wrap_i64]; omega
              have S3 : Aside (SWK enc k w0 blk off (swp dj (jp + 1) (jp)) ((w2.drew.setCells blk (off + (jp + 1) * k) (enc dj[jp]!)).setCells blk (off + (jp) * k) (enc dj[jp + 1]!))) := S2.out.swapped R (jp + 1) (jp) (by omega) (by omega)
              have l7a := S2.out.ld1 R (by omega) P (jp + 1) (by omega)
              have l7b := S2.out.ld1 R (by omega) P (jp) (by omega)
              have s7a := S2.out.st1 R (by omega) P (jp + 1) (by omega) dj[jp]!
              have s7b := S2.out.st2 R (by omega) P (jp + 1) (jp) (by omega) (by omega) dj[jp]! dj[jp + 1]!
              have n7a : (enc dj[jp + 1]!).length = k := R.hk _
              have n7b : (enc dj[jp]!).length = k := R.hk _
              generalize enc dj[jp + 1]! = cI7 at S3 l7a s7b n7a
              generalize enc dj[jp]! = cJ7 at S3 l7b s7a s7b n7b
              clear S2
              go_wp2_with fail
              go_big_region_o
              clear l7a l7b s7a s7b
              generalize (w2.drew.setCells blk (off + (jp + 1) * k) cJ7).setCells blk (off + (jp) * k) cI7 = w3 at S3 ⊢
              go_wp2
              go_roundg jp
              case measure => omega
              case rel =>
                refine ⟨jp, swp dj (jp + 1) jp, by go_num, by omega, Nat.le_refl _, by rw [size_swp]; exact hsj, S3, (show Hid _ from ?_)⟩
                show _ = _
                have := insInner_go (ltOf cf) 0 (jp + 1) dj hja (by simp only [Nat.add_sub_cancel]; exact hL)
                simp only [Nat.add_sub_cancel] at this
                rw [← HI.out, this]
            | false =>
              go_wp2_with fail
              have ea6 : ((jp : Int) + 1).toNat = jp + 1 := by omega
              have pa6 : (0 : Int) ≤ (jp : Int) + 1 := by omega
              have ba6 : (jp : Int) + 1 < (d.size : Int) := by omega
              have ra6 : IntKind.i64.wrap ((jp : Int) + 1) = (jp : Int) + 1 := by rw [IntKind.wrap_i64]; omega
              have ec6 : ((jp : Int)).toNat = jp := by omega
              have pc6 : (0 : Int) ≤ (jp : Int) := by omega
              have bc6 : (jp : Int) < (d.size : Int) := by omega
              have rc6 : IntKind.i64.wrap ((jp : Int)) = (jp : Int) := by rw [IntKind.wrap_i64]; omega
              obtain ⟨x6, hx6⟩ : ∃ x, x = dj[jp + 1]! := ⟨_, rfl⟩
              obtain ⟨y6, hy6⟩ : ∃ x, x = dj[jp]! := ⟨_, rfl⟩
              have l6a := S1.out.ld R (by omega) P (jp + 1) (by omega)
              have l6b := S1.out.ld R (by omega) P (jp) (by omega)
              rw [← hx6] at l6a
              rw [← hy6] at l6b
              have hc6 := S1.out.cmp HC.out (by omega) x6 y6
              simp only [Array.append_empty] at hc6
              have hv6 : ¬ cf x6 y6 < 0 := by rw [hx6, hy6]; exact of_decide_eq_false hL
              have hd6 : decide (cf x6 y6 < 0) = false := decide_eq_false hv6
              clear hx6 hy6
              go_wp2_with fail
              go_quiet_grown (first | (go_at_fn 27; refine Calls.grown_of (hc6 _ _)))
              have S2 : Aside (SWK enc k w0 blk off dj (grow (wr.drewN nq) osq)) := S1.out.grown nq osq
              clear l6a l6b hc6 S1
              generalize grow (wr.drewN nq) osq = w2 at S2 ⊢
              clear nq osq
              go_wp2
              go_roundg (d.size - (i + 1))
              case measure => omega
              case rel => exact ⟨i + 1, dj, by go_num, by omega, Nat.le_refl _, hsj, S2, OUT.out (Or.inr (by simp only [Nat.add_sub_cancel]; exact hL))⟩
          · obtain rfl : j = 0 := by omega
            have hdr : Aside (SWK enc k w0 blk off dj wr.drew) := S1.out.drew
            clear S1
            go_wp2_with fail
            go_big_region_o
            all_goals go_wp2
            go_roundg (d.size - (i + 1))
            case measure => omega
            case rel => exact ⟨i + 1, dj, by go_num, by omega, Nat.le_refl _, hsj, hdr, OUT.out (Or.inl (by omega))⟩
      · have hltz : ¬ (i : Int) < (d.size : Int) := by omega
        go_wp2
        refine HQ.out _ ?_
        have e : dk = insertionSort (ltOf cf) d 0 d.size := by rw [← insOuter_zero, ← HO.out, insOuter_stop _ _ _ _ _ hlt]
        rw [← e]
        exact SK.out

theorem rsort_any (A : Option Addr) (n c : Nat) (xs : List Ent) (w : World) (hl : RdL w A n xs) (hnc : n ≤ c) (hn : n ≤ 1000000) :
    Calls Try.prog 45 #[.slice A n c] w fun e w' => ∃ v S, e = .returned v ∧ IsSrt xs S ∧ OwnF w' w.heap.size v S ∧ Ext w w' := by
  refine rsort_gen 4 lyT Try.func45 (enters_of Try.func43 (by kernel_rfl) rfl) (enters_of Try.func27 (by kernel_rfl) rfl) _ w _ ((rcopyL_any A n c xs w hl hnc hn).mono ?_)
  rintro e w1 ⟨v, rfl, hO, hX⟩
  have hxn : xs.length ≤ 1000000 := by rw [hl.1]; exact hn
  by_cases hv : v = .slice none 0 0
  · subst hv
    have hx : xs = [] := by
      obtain ⟨A, c, e, _⟩ := hO.ownL.form (by unfold B41; omega)
      injection e with _ h0 _
      exact List.eq_nil_of_length_eq_zero h0.symm
    subst hx
    exact .inl ⟨rfl, _, [], rfl, isSrt_nil, OwnF.nil _ _, hX⟩
  obtain ⟨b, cap, L, tail, rfl, hb, hrow, hL, hE, hcap, hmx, htl⟩ := hO.row hv
  obtain ⟨d, hd⟩ := prs_of hE
  have hds : d.size = xs.length := by rw [← prs_len, hd, ← List.length_map (f := Prod.snd), hL, List.length_zipIdx]
  rw [← hd] at hrow hL
  have hbl : b < w1.heap.size := (Array.getElem?_eq_some_iff.1 (show w1.heap[b]? = some _ from hrow)).1
  refine .inr ⟨Er w1 w.heap.size, inferInstance, encE, cfE, b, 0, cap, d, by rw [hds], ⟨fun x => cellsQ_len x.1, fun x => cellsQ_one x.1, hrow.holds, hbl⟩, cmpLays_of hrow hb (fun u v x y W hx hy => rcompareG_any u v x y W hx hy), by omega, by omega, fun w' hS => ?_⟩
  have hins := insertionSort_holds (swoE w1 w.heap.size) d 0 d.size (Nat.zero_le _) (Nat.le_refl _)
  have hm : Mrg (ltOf cfE) ixE d (insertionSort (ltOf cfE) d 0 d.size) 0 d.size := ⟨hins.1, hins.2, fun h => h.insertion (Nat.le_refl _)⟩
  have hs' : (insertionSort (ltOf (cfE (w := w1) (base := w.heap.size))) d 0 d.size).size = d.size := hins.1.1
  obtain ⟨m, os, rfl⟩ := hS
  obtain ⟨hr2, hg2⟩ := sortE_row (d' := insertionSort (ltOf cfE) d 0 d.size) hrow hs' m os
  refine ⟨_, (prs (insertionSort (ltOf cfE) d 0 d.size)).map (fun q => q.2.1), rfl, srt_of hL hm, ?_, hX.grown hg2 (fun k hk => by cases hk; exact hb)⟩
  have := OwnF.of_row hr2 hb (cap := cap) (fun q hq => ?_) (by rw [prs_len, hs', hds]; exact hcap) hmx (by rw [prs_len, hs', hds]; exact htl)
  · rw [prs_len, hs'] at this; exact this
  · unfold prs at hq
    obtain ⟨x, _, rfl⟩ := List.mem_map.1 hq
    exact x.2.kx (Kx.of_grown hg2 (fun k hk => by cases hk; exact ⟨_, _, hrow⟩)) (by decide)

end Go.Proofs.Ytpohmoakilioiaa
