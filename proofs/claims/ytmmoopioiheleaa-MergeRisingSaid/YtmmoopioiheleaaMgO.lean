/- What merge's iterators hand over; what lies on behind their own steps; the law's Of. Conditions: the list reads. -/
import Derived.Test.YtmmoopioiheleaaRangeM
import Derived.Test.YtmmoopioiheleaaIter
import Derived.Test.YtmmoopioiheleaaKx
import Derived.Test.YtmmoopioiheleaaCopyF
namespace Go.Proofs.Ytmmoopioiheleaa
set_option linter.unusedSimpArgs false
set_option linter.unusedVariables false
open Go.RowKit Go.Shelf
attribute [local go_sem] Oper.semAt_some

theorem OwnB.u8 {w w' : World} {base : Nat} {v : Value} {x : Bs} (h : OwnB w base v x) (k : U8 w w') : OwnB w' base v x := by
  have ho := h.out
  refine (⟨ho.1, ?_⟩ : OwnB w' base v x)
  rcases ho.2 with hn | ⟨g, cap, cur, hv, hb, hg, rest⟩
  · exact .inl hn
  · exact .inr ⟨g, cap, cur, hv, hb, k g cur (0, 0) hg, rest⟩
theorem FrE.u8 {w w' : World} {base : Nat} {v : Value} {x : Ent} (h : FrE w base v x) (k : U8 w w') : FrE w' base v x := by
  obtain ⟨A, n, c, A', n', c', rfl, o1, o2, r1, r2, a, b, c, d, e, f⟩ := h
  have k1 := o1.u8 k
  have k2 := o2.u8 k
  exact ⟨A, n, _, A', n', _, rfl, k1, k2, Rd.of_OwnB k1 r1.1.symm, Rd.of_OwnB k2 r2.1.symm, a, b, c, d, e, f⟩
/-- A row whose own block stays. -/
theorem ownsRow_blk {e : TypeId} {w w' : World} {base size n : Nat} {v : Value} {xs : List Value} (ho : w.ownsRow base e size v n xs) (hb : ∀ g, v.ownBlock = some g → w'.heap[g]? = w.heap[g]?) : w'.ownsRow base e size v n xs := by
  refine ⟨ho.1, ?_⟩
  rcases ho.2 with hn | ⟨g, cap, cur, hv, hb2, hg, rest⟩
  · exact .inl hn
  · exact .inr ⟨g, cap, cur, hv, hb2, by rw [hb g (by rw [hv]; rfl)]; exact hg, rest⟩
theorem OwnF.u8 {w w' : World} {base : Nat} {v : Value} {xs : List Ent} (h : OwnF w base v xs) (k : U8 w w') (hb : ∀ g, v.ownBlock = some g → w'.heap[g]? = w.heap[g]?) : OwnF w' base v xs := by
  obtain ⟨hs, hl, ho, hr⟩ := h
  exact ⟨hs, hl, ownsRow_blk ho hb, fun i i1 i2 => (hr i i1 i2).u8 k⟩
/-- Bytes that lie below, or in a block of bytes. -/
theorem Rd.u8 {w w' : World} {base : Nat} {A : Option Addr} {n : Nat} {x : Bs} (h : Rd w A n x) (ha : Apt w base A n) (k : U8 w w') (hb : ∀ j, j < base → j < w.heap.size → w'.heap[j]? = w.heap[j]?) : Rd w' A n x ∧ Apt w' base A n := by
  refine ⟨⟨h.1, fun hn => ?_⟩, fun hn a e => ?_⟩
  · obtain ⟨b, o, e, hc⟩ := h.2 hn
    refine ⟨b, o, e, fun j hj => ?_⟩
    have hcj := hc j hj
    have hbl : w'.heap[b]? = w.heap[b]? := by
      rcases ha hn _ e with h1 | ⟨cs, fr, h1⟩
      · exact hb b h1 (cell_lt hcj)
      · rw [h1]; exact k b cs fr h1
    unfold World.cell? at *
    rw [hbl]; exact hcj
  · rcases ha hn a e with h1 | ⟨cs, fr, h1⟩
    · exact .inl h1
    · exact .inr ⟨cs, fr, k _ cs fr h1⟩
theorem Elt.u8 {w w' : World} {base : Nat} {h : Hdr} {x : Ent} (e : Elt w base h x) (k : U8 w w') (hb : ∀ j, j < base → j < w.heap.size → w'.heap[j]? = w.heap[j]?) : Elt w' base h x := by
  obtain ⟨⟨A, n, c, A', n', c', hv, h1, h2, h3⟩, a1, a2⟩ := e
  simp [cellsE] at hv
  obtain ⟨⟨rfl, rfl, rfl⟩, rfl, rfl, rfl⟩ := hv
  exact ⟨⟨_, _, _, _, _, _, rfl, (h1.u8 a1 k hb).1, (h2.u8 a2 k hb).1, h3⟩, (h1.u8 a1 k hb).2, (h2.u8 a2 k hb).2⟩
theorem OwnL.u8 {w w' : World} {base : Nat} {v : Value} {xs : List Ent} (h : OwnL w base v xs) (k : U8 w w') (hb : ∀ j, j < base → j < w.heap.size → w'.heap[j]? = w.heap[j]?) (hv : ∀ g, v.ownBlock = some g → w'.heap[g]? = w.heap[g]?) : OwnL w' base v xs := by
  obtain ⟨hs, hl, ho, hr⟩ := h
  exact ⟨hs, hl, ownsRow_blk ho hv, fun i i1 i2 => (hr i i1 i2).u8 k hb⟩

/-- What is handed over: an entry whose bytes lie below 'base', or in blocks of bytes. -/
def OkM (base : Nat) (x : Ent) (vs : Array Value) (_ : Nat) (_ : Nat → Prop) (W : World) : Prop := ∃ h : Hdr, vs = #[.agg (cellsE h x).toArray] ∧ Elt W base h x
theorem RdL.elt {w : World} {b o n : Nat} {xs : List Ent} (h : RdL w (some ⟨b, o, none⟩) n xs) {k : Nat} {x : Ent} (hk : xs[k]? = some x) {W : World} (e : Ext w W) : ∃ q : Hdr, (W.cell? ⟨b, o + k * 4, none⟩ = some (.slice q.A q.n q.c) ∧ W.cell? ⟨b, o + k * 4 + 1, none⟩ = some (.int .i64 x.seq) ∧ W.cell? ⟨b, o + k * 4 + 2, none⟩ = some (.int .i64 x.kind) ∧ W.cell? ⟨b, o + k * 4 + 3, none⟩ = some (.slice q.B q.m q.d)) ∧ ∀ base, w.heap.size ≤ base → Elt W base q x := by
  have hlt := (List.getElem?_eq_some_iff.1 hk).1
  obtain ⟨b', o', A1, n1, c1, A2, n2, c2, y, e1, hy, ⟨d0, d1, d2, d3⟩, hr⟩ := h.at_ k (by rw [← h.1]; exact hlt)
  cases e1
  rw [hk] at hy
  cases hy
  refine ⟨⟨A1, n1, c1, A2, n2, c2⟩, ⟨e.keeps _ _ _ d0, e.keeps _ _ _ d1, e.keeps _ _ _ d2, e.keeps _ _ _ d3⟩, fun base hb => ⟨hr.ext e, ?_, ?_⟩⟩
  · obtain ⟨_, _, _, _, _, _, hv, h1, _⟩ := hr
    cases hv
    exact Apt.low W h1 hb
  · obtain ⟨_, _, _, _, _, _, hv, _, h1, _⟩ := hr
    cases hv
    exact Apt.low W h1 hb

theorem of_any (A : Option Addr) (n c : Nat) (w : World) :
    Calls Try.prog 9 #[.slice A n c] w fun e w' => e = .returned (.func (.func 22) #[] #[.pointer (some ⟨w.heap.size, 0, none⟩)]) ∧ w' = w.alloc (.cells #[.slice A n c] 22) := by
  go_enter Try.func9, Try.ntmps9
  go_wp2
  go_ret
  exact ⟨rfl, rfl⟩

set_option maxRecDepth 100000 in
set_option maxHeartbeats 4000000 in
theorem of1_seq (A : Option Addr) (n c g base : Nat) (xs : List Ent) (S : Nat → Prop) (w00 w0 : World) (hl : RdL w00 A n xs) (hnc : n ≤ c) (h0 : Ext w00 w0) (hS : ∀ k, S k → w00.heap.size ≤ k) (hbase : w00.heap.size ≤ base)
    (hg : w0.cell? ⟨g, 0, none⟩ = some (.slice A n c)) (hgS : ¬ S g) :
    SeqM Try.prog 22 #[.pointer (some ⟨g, 0, none⟩)] (OkM base) S xs w0 := by
  intro num l J Jx W hW hJ hJx hY hJ0
  have hb1 := hW.keeps' hg
  have hgW := cell_lt hb1
  have h0W := h0.trans hW
  have hxl := hl.1
  have hnB := hl.2.1
  unfold B41 at hnB
  have HL := Lib.hid hl
  clear hg hl
  refine callsIn_of_wp Try.func22 rfl trivial ?_ rfl
  simp only [Try.ntmps22, List.size_toArray, List.length_cons, List.length_nil, Nat.reduceAdd, Nat.reduceSub, Array.replicate_succ, Array.replicate_zero, List.push_toArray, List.append_toArray, List.nil_append, List.cons_append]
  gi_wp2
  gi_loopw [3] (fun u wr => ∃ k : Nat, u = .int .i64 k ∧ k ≤ n ∧ Hid (J (xs.take k) (fun _ => False) (fun _ => False) wr) ∧ Hid (Kept (fun j => j < W.heap.size ∧ ¬ S j) W wr)) (fun u _ => n - (intOf u).toNat)
  case atStart => exact ⟨0, rfl, Nat.zero_le _, Lib.hid hJ0, Lib.hid (Kept.rfl_ _ _)⟩
  case round =>
    obtain ⟨k, rfl, hk, HJ, HK⟩ := hrel
    have i1 := HK.out.cell hb1 ⟨hgW, hgS⟩
    by_cases hkc : k = n
    · subst hkc
      have HJE := Lib.hid (show J xs (fun _ => False) (fun _ => False) wr from by have := HJ.out; rwa [List.take_of_length_le (by omega)] at this)
      gi_wp2
      go_end0
      exact ⟨⟨_, rfl⟩, .inl ⟨_, _, HJE.out⟩⟩
    · have hkn : k < n := by omega
      have hltc : (k : Int) < (n : Int) := by omega
      have hzr : Ext w00 wr := HK.out.ext_of h0W (fun j hj => ⟨Nat.lt_of_lt_of_le hj h0W.size, fun h => by have := hS j h; omega⟩)
      obtain ⟨x, hx⟩ : ∃ x, xs[k]? = some x := ⟨_, List.getElem?_eq_getElem (by omega)⟩
      obtain ⟨bb, oo, rfl, _⟩ := HL.out.2.2 (by omega)
      obtain ⟨q, ⟨d0, d1, d2, d3⟩, hel⟩ := HL.out.elt hx hzr
      have HEL := Lib.hid (hel base hbase)
      have HF : Hid (xs.take (k + 1) = xs.take k ++ [x]) := Lib.hid (by rw [List.take_add_one, hx]; rfl)
      have HP : Hid (xs.take k ++ [x] <+: xs) := Lib.hid (by rw [← HF.out]; exact List.take_prefix _ _)
      have hwr : IntKind.i64.wrap ((k : Int) + 1) = ((k + 1 : Nat) : Int) := by rw [IntKind.wrap_i64]; omega
      clear hel hx hzr
      gi_wp2
      obtain ⟨fn, tmps, assign, body, hy, hRd⟩ := hY _ x #[.agg (cellsE q x).toArray] (fun _ => False) (fun _ => False) wr (num - 1) HJ.out HP.out ⟨q, rfl, HEL.out⟩ (fun _ h => h.elim) (fun _ h => h) HK.out.size
      rw [show (Value.agg #[.slice q.A q.n q.c, .int .i64 x.seq, .int .i64 x.kind, .slice q.B q.m q.d]) = .agg (cellsE q x).toArray from rfl, hy]
      refine ⟨fun h => (by simp [Fence.wide] at h), ?_⟩
      refine RoundIn.mono hRd ?_
      rintro e W3 hE
      rcases hE with ⟨rfl, hJ3, hk3⟩ | ⟨rfl, hJ3, hk3⟩
      · have HK3 := Lib.hid (HK.out.trans (hk3.mono fun k hk => .inr hk))
        have HJ3 := Lib.hid (show J (xs.take (k + 1)) (fun _ => False) (fun _ => False) W3 from by rw [HF.out]; exact hJ3)
        clear hJ3 hk3 hy hRd
        gi_wp2
        go_roundw
        case rel => exact ⟨k + 1, by go_num, by omega, HJ3, HK3⟩
        case measure => simp [intOf]; omega
      · have HJ3 := Lib.hid hJ3
        clear hJ3 hk3 hy hRd
        gi_wp2
        refine bodyPost_ret (results_none rfl _ _ _) rfl ?_
        exact ⟨⟨_, rfl⟩, .inr ⟨_, _, _, HP.out, HJ3.out⟩⟩

end Go.Proofs.Ytmmoopioiheleaa
