/- Contracts of the reference's digits, Number, Bytes (layer 1) and of the entry's Bytes (layer 5). Conditions: the slices read as bytes. -/
import Derived.Test.YtpohmoakilioiaaKeyC
import Derived.Test.YtpohmoakilioiaaReadC
import Derived.Laws.OwnMore
namespace Go.Proofs.Ytpohmoakilioiaa
set_option linter.unusedSimpArgs false
set_option linter.unusedVariables false
set_option maxRecDepth 100000
open Go.RowKit

theorem numB_pos (n : Nat) : 1 ≤ (numB n).length := by
  unfold numB numF; split <;> simp
theorem numF_pos (f n : Nat) : 1 ≤ (numF (f + 1) n).length := by
  unfold numF; split <;> simp

set_option maxHeartbeats 400000 in
theorem digits_any (n : Nat) (w : World) (hn : n < 18446744073709551616) :
    Calls Try.prog 76 #[.int .u64 n] w fun e w' => e = .returned (.int .i64 (numB n).length) ∧ w = w' := by
  have hn10 : n < 128 ^ 10 := Nat.lt_of_lt_of_le hn (by decide)
  have HN := Lib.hid hn
  go_enter Try.func76, Try.ntmps76
  go_wp2
  go_loop [0, 3] (fun t k => ∃ m f j : Nat, t = .int .u64 m ∧ m ≤ n ∧ m < 128 ^ (f + 1) ∧ f + j = 10 ∧ k = .int .i64 j ∧ j + (numF (f + 1) m).length = (numB n).length + 1) (fun t _ => (intOf t).toNat)
  case atStart => exact ⟨n, 9, 1, rfl, Nat.le_refl _, hn10, rfl, rfl, by show 1 + (numF 10 n).length = _; unfold numB; omega⟩
  case round =>
    obtain ⟨m, f, j, rfl, hmn, hm, hfj, rfl, hl⟩ := hrel
    have HM := Lib.hid hm
    have HL := Lib.hid hl
    have hj : j ≤ 10 := by omega
    have hm64 : m < 18446744073709551616 := by omega
    have HF := Lib.hid hfj
    clear hm hl hfj hn10 hn
    by_cases hlt : m < 128
    · have h0 : ¬ (0 : Int) < (m : Int) / 128 := by omega
      go_wp2
      go_ret
      exact ⟨ret_int (by have := HL.out; rw [numF_lt hlt] at this; simp at this; omega), rfl⟩
    · have h0 : (0 : Int) < (m : Int) / 128 := by omega
      go_wp2
      go_round
      case rel =>
        have hm := HM.out
        have hf := HF.out
        have hl := HL.out
        obtain ⟨f, rfl⟩ : ∃ g, f = g + 1 := by
          cases f with
          | zero => exact absurd hm (by simpa using hlt)
          | succ g => exact ⟨g, rfl⟩
        refine ⟨m / 128, f, j + 1, by go_num, by omega, ?_, by omega, by go_num, ?_⟩
        · rw [Nat.pow_succ] at hm; omega
        · rw [numF_ge hlt] at hl; simp at hl; omega
      case measure => simp [intOf]; omega

/-- The byte at j of bytes of the call's own; it may be written. -/
theorem OwnB.setB {w : World} {base g n c : Nat} {x : Bs} (h : OwnB w base (.slice (some ⟨g, 0, none⟩) n c) x) (j : Nat) (b : UInt8) (u : Value) (hu : u = .int .u8 (b.toNat : Int)) :
    OwnB (w.setCell ⟨g, j, none⟩ u) base (.slice (some ⟨g, 0, none⟩) n c) (x.set j b) := by
  have hn : n = x.length := by
    rcases h.out.2 with ⟨hv, _⟩ | ⟨g', cap, cur, hv, _⟩
    · cases hv
    · cases hv; rfl
  subst hn hu
  have := (World.ownsRow.stored h.out j (.int .u8 (b.toNat : Int))).1
  unfold OwnB
  rw [List.length_set]
  simpa [byV, List.map_set] using this
theorem OwnB.cellB {w : World} {base g n c : Nat} {x : Bs} (h : OwnB w base (.slice (some ⟨g, 0, none⟩) n c) x) (j : Nat) (hj : j < x.length) :
    w.cell? ⟨g, j, none⟩ = some (.int .u8 (x[j].toNat : Int)) ∧ w.frozen? ⟨g, j, none⟩ = false ∧ base ≤ g := by
  have hn : n = x.length := by
    rcases h.out.2 with ⟨hv, _⟩ | ⟨g', cap, cur, hv, _⟩
    · cases hv
    · cases hv; rfl
  subst hn
  have := World.ownsRow.cellAt h.out j (by omega)
  refine ⟨by rw [this]; simp [byV, List.getElem?_eq_getElem hj], World.ownsRow.frozenAt h.out j, ?_⟩
  exact (h.out.lt g rfl).1

set_option maxRecDepth 100000 in
set_option maxHeartbeats 1000000 in
theorem r1number_any (n : Nat) (w : World) (hn : n < 18446744073709551616) :
    Calls Try.prog 53 #[.int .u64 n] w fun e w' => ∃ v', e = .returned v' ∧ OwnB w' w.heap.size v' (numB n) ∧ Ext w w' := by
  obtain ⟨i0, hi, hz0, hz1, hz2⟩ := info_parts Try.info5x
  have hn10 : n < 128 ^ 10 := Nat.lt_of_lt_of_le hn (by decide)
  have hd := numB_length n
  have hd1 := numB_pos n
  obtain ⟨d, hdd⟩ : ∃ d, d = (numB n).length := ⟨_, rfl⟩
  rw [← hdd] at hd hd1
  have HN := Lib.hid hn10
  have HD := Lib.hid hdd
  clear hn10 hdd
  go_enter Try.func53, Try.ntmps53
  go_wp2_with fail
  refine (digits_any n _ hn).mono ?_
  rintro e w' ⟨rfl, rfl⟩
  rw [← HD.out]
  go_wp2_with (refine wpList_make_full _ rfl _ _ 22 rfl w.heap.size 5 i0 (.int .u8 0) 1 Try.underlying22 hi hz0 hz1 .i64 .i64 (d : Int) (d : Int) d rfl rfl rfl rfl (by rw [hz2]; omega) (by unfold maxLen; omega) (Nat.le_refl _) ?_; intro w1 h1 h2)
  have hsz := h2.size
  have hz : OwnB w1 w.heap.size (.slice (some ⟨w.heap.size, 0, none⟩) d d) (List.replicate d 0) := by
    unfold OwnB
    rw [List.length_replicate]
    have e : byV (List.replicate d 0) = (madeCells (Value.int .u8 0).cells (d * 1)).toList := by
      show _ = (madeCells #[Value.int .u8 0] (d * 1)).toList
      rw [toList_madeCells_one, Nat.mul_one]; simp [byV]
    rw [e]; exact h1
  have HE := Lib.hid (Ext.grown (Ext.rfl_ w) h2 (fun k hk => by cases hk))
  have HZ := Lib.hid hz
  clear h1 h2 hz
  go_loopw [0, 4] (fun t i wr => ∃ (m k f : Nat) (p : Bs), t = .int .u64 m ∧ m < 18446744073709551616 ∧ i = .int .i64 k ∧ k ≤ d ∧ Hid (p.length = k) ∧ Hid (k < d → p ++ numF (f + 1) m = numB n ∧ m < 128 ^ (f + 1)) ∧ Hid (k = d → p = numB n) ∧ OwnB wr w.heap.size (.slice (some ⟨w.heap.size, 0, none⟩) d d) (p ++ List.replicate (d - k) 0) ∧ Ext w wr) (fun _ i _ => d - (intOf i).toNat)
  case atStart => exact ⟨n, 0, 9, [], rfl, hn, rfl, Nat.zero_le _, Lib.hid rfl, Lib.hid (fun _ => ⟨rfl, HN.out⟩), Lib.hid (fun h => by omega), HZ.out, HE.out⟩
  case round =>
    obtain ⟨m, k, f, p, rfl, hm, rfl, hk, hp, hq, hr, hown, hext⟩ := hrel
    by_cases hkd : (k : Int) < (d : Int)
    · obtain ⟨hq1, hq2⟩ := hq.out (by omega)
      have hl : (p ++ List.replicate (d - k) (0 : UInt8)).length = d := by simp [hp.out]; omega
      obtain ⟨hc, hf, _⟩ := hown.cellB k (by rw [hl]; omega)
      have e0 : (p ++ List.replicate (d - k) (0 : UInt8))[k]'(by rw [hl]; omega) = 0 := by
        rw [List.getElem_append_right (by rw [hp.out]; omega)]; simp
      rw [e0] at hc
      have HO := Lib.hid hown
      have HL := Lib.hid hl
      have HQ1 := Lib.hid hq1
      have HQ2 := Lib.hid hq2
      clear hown e0 hl hq1 hq2 hq hr
      by_cases hlt : m < 128
      · have hk1 : (d : Int) - 1 ≤ (k : Int) := by
          have := congrArg List.length HQ1.out
          rw [numF_lt hlt] at this
          have h0 := HD.out
          have h1 := hp.out
          simp at this; omega
        go_wp2
        go_roundw
        case rel =>
          have hkd' : k + 1 = d := by omega
          have hw := HO.out.setB k (UInt8.ofNat m) (.int .u8 ((m : Int) % 128)) (by rw [u8_of hlt]; congr 1; omega)
          have h1 := hp.out
          refine ⟨m / 128, k + 1, 0, p ++ [UInt8.ofNat m], rfl, by omega, by go_num, by omega, Lib.hid (by simp [h1]), Lib.hid (fun h => by omega), Lib.hid (fun _ => ?_), ?_, ?_⟩
          · rw [← HQ1.out, numF_lt hlt]
          · have e : (p ++ List.replicate (d - k) (0 : UInt8)).set k (UInt8.ofNat m) = (p ++ [UInt8.ofNat m]) ++ List.replicate (d - (k + 1)) 0 := by
              rw [show d - k = (d - (k + 1)) + 1 from by omega, List.replicate_succ, List.set_append_right _ _ (by omega), h1]; simp
            rw [e] at hw; exact hw
          · exact hext.setCell (Nat.le_refl _) _
        case measure => simp [intOf]; omega
      · have hk1 : (k : Int) < (d : Int) - 1 := by
          have := congrArg List.length HQ1.out
          rw [numF_ge hlt] at this
          have h0 := HD.out
          have h1 := hp.out
          have h2 := HQ2.out
          cases f with
          | zero => exact absurd h2 (by simpa using hlt)
          | succ f =>
            have h3 := numF_pos f (m / 128)
            simp at this; omega
        have hb : ((m : Int) % 128 + 128) ≤ 255 := by omega
        go_wp2
        go_roundw
        case rel =>
          have hw := (HO.out.setB k (UInt8.ofNat (m % 128)) (.int .u8 ((m : Int) % 128)) (by rw [u8_of (Nat.mod_lt _ (by omega))]; congr 1)).setB k (UInt8.ofNat (128 + m % 128)) (.int .u8 ((m : Int) % 128 + 128)) (by rw [u8_add, Int.add_comm])
          have h1 := hp.out
          have h2 := HQ2.out
          obtain ⟨f, rfl⟩ : ∃ g, f = g + 1 := by
            cases f with
            | zero => exact absurd h2 (by simpa using hlt)
            | succ g => exact ⟨g, rfl⟩
          refine ⟨m / 128, k + 1, f, p ++ [UInt8.ofNat (128 + m % 128)], rfl, by omega, by go_num, by omega, Lib.hid (by simp [h1]), Lib.hid (fun _ => ⟨?_, ?_⟩), Lib.hid (fun h => by omega), ?_, ?_⟩
          · rw [← HQ1.out, numF_ge hlt, List.append_assoc]; rfl
          · rw [Nat.pow_succ] at h2; omega
          · rw [List.set_set] at hw
            have e : (p ++ List.replicate (d - k) (0 : UInt8)).set k (UInt8.ofNat (128 + m % 128)) = (p ++ [UInt8.ofNat (128 + m % 128)]) ++ List.replicate (d - (k + 1)) 0 := by
              rw [show d - k = (d - (k + 1)) + 1 from by omega, List.replicate_succ, List.set_append_right _ _ (by omega), h1]; simp
            rw [e] at hw; exact hw
          · exact (hext.setCell (Nat.le_refl _) _).setCell (Nat.le_refl _) _
        case measure => simp [intOf]; omega
    · have hkd' : k = d := by omega
      subst hkd'
      have e1 := hr.out rfl
      have HR := Lib.hid e1
      have HO := Lib.hid hown
      clear e1 hr hq hown
      go_wp2
      go_ret
      refine ⟨_, rfl, ?_, hext⟩
      have := HO.out
      rw [Nat.sub_self] at this
      simpa [HR.out] using this

set_option maxRecDepth 100000 in
set_option maxHeartbeats 800000 in
theorem r1bytes_any (A : Option Addr) (n c : Nat) (x : Bs) (w : World) (hx : Rd w A n x) (hn : n ≤ B40) :
    Calls Try.prog 52 #[.slice A n c] w fun e w' => ∃ v', e = .returned v' ∧ OwnB w' w.heap.size v' (bytB x) ∧ Ext w w' := by
  have hl := hx.1
  unfold B40 at hn
  have HX := Lib.hid hx
  have HL := Lib.hid hl
  clear hx hl
  have hu : n < 18446744073709551616 := by omega
  go_enter Try.func52, Try.ntmps52
  go_wp2_with fail
  refine (r1number_any n _ hu).mono ?_
  rintro e w2 ⟨v2, rfl, h3, h4⟩
  have hr := HX.out.ext h4
  have hnl := numB_length n
  have HR := Lib.hid hr
  have hlb := h3.out.lt
  clear hr
  go_wp2_with (refine wp_app rfl _ _ rfl w.heap.size v2 (numB n) rfl h3 A n c x rfl HR.out (by rw [HL.out]; unfold B47; omega) (Ext.size h4) ?_; intro v3 w3 h5 h6)
  go_ret
  refine ⟨v3, rfl, ?_, ?_⟩
  · unfold bytB; rw [HL.out]; exact h5
  · exact h4.grown h6 (fun k hk => (hlb k hk).1)

theorem run_app (w : World) (ty : TypeId) (base : Nat) (v : Value) (y : Bs) (hown : OwnB w base v y) (A : Option Addr) (m c : Nat) (z : Bs) (hr : Rd w A m z) (hsz : y.length + z.length ≤ B47) (hbase : base ≤ w.heap.size) :
    ∃ v' w', (Builtin.append_ #[22, 22] ty #[v, .slice A m c]).run Try.prog w = .ok v' w' ∧ OwnB w' base v' (y ++ z) ∧ w.grownBy w' v.ownBlock ∧ (v' = .slice none 0 0 → v = .slice none 0 0) := by
  obtain ⟨i0, hi, hz0, hz1, hz2⟩ := info_parts Try.info5x
  have hzl := hr.1
  cases A with
  | none =>
    have h0 : m = 0 := by
      rcases Nat.eq_zero_or_pos m with h | h
      · exact h
      · obtain ⟨b, o, e, _⟩ := hr.2 h
        cases e
    subst h0
    obtain rfl := hr.nil_eq
    exact ⟨v, w, run_app_nil (P := Try.prog) w base 22 ty 5 i0 1 Try.underlying22 hi v _ _ hown.out c, by simpa using hown, World.grownBy.refl w _, id⟩
  | some ad =>
    have hnews : ∀ j u, (byV z)[j]? = some u → w.cell? (ad.add j) = some u := by
      intro j u hj
      have hjn : j < z.length := by
        have := (List.getElem?_eq_some_iff.1 hj).1
        simpa using this
      obtain ⟨b, o, e, hc⟩ := hr.2 (by omega)
      obtain rfl := Option.some.inj e
      have e2 : (⟨b, o, none⟩ : Addr).add j = ⟨b, o + j, none⟩ := by unfold Addr.add; split <;> simp_all
      rw [e2, hc j hjn]
      simpa [List.getElem?_eq_getElem hjn] using hj
    unfold B47 at hsz
    obtain ⟨v', w', h0, h1, h2, h3⟩ := run_append_own (P := Try.prog) w base 22 ty 5 i0 (.int .u8 0) 1 1 Try.underlying22 hi hz0 hz1 hz2 rfl (by decide) v y.length (byV y) hown.out ad m c (byV z) (by simp [byV]; omega) hnews
      (by intro u hu; obtain ⟨x, _, rfl⟩ := List.mem_map.1 hu; rfl) (by unfold maxLen; omega) (by omega) hbase
    refine ⟨v', w', h0, ?_, h2, fun e => (h3.1 e).1⟩
    unfold OwnB
    rw [List.length_append, hzl]
    simpa [byV] using h1

/-- 'append(out, b...)' of bytes as a region's operation. -/
theorem step_app {ops : Array Oper} {o : Oper} {a : Act} {w : World} {K : Act → World → Prop} {Q : Exit → Act → World → Prop} {E : Prop} (hgd : o.guard = none) (s x : Operand)
    (ho : o.op = .call { callee := .builtin .append, args := #[s, x], argTypes := #[22, 22] })
    (base : Nat) (v : Value) (y : Bs) (hs : a.eval s = v) (hown : OwnB w base v y) (A : Option Addr) (m c : Nat) (z : Bs) (hx : a.eval x = .slice A m c) (hr : Rd w A m z)
    (hsz : y.length + z.length ≤ B47) (hbase : base ≤ w.heap.size)
    (h : ∀ v' w', OwnB w' base v' (y ++ z) → w.grownBy w' v.ownBlock → (v' = .slice none 0 0 → v = .slice none 0 0) → K (a.put o.dst v') w') :
    if Region.wanted o (yielded ops a.tmps) = true then Oper.wp Try.prog o a w K Q else E := by
  have hw : Region.wanted o (yielded ops a.tmps) = true := by simp [Region.wanted, hgd]
  rw [if_pos hw]
  obtain ⟨v', w', hrun, h1, h2, h3⟩ := run_app w o.type base v y hown A m c z hr hsz hbase
  unfold Oper.wp
  simp [execOp, ho, resolve, invoke, builtin, hs, hx, hrun, Result.andThen]
  exact h v' w' h1 h2 h3

theorem Ext.growBy {a w w' : World} {base : Nat} {v : Value} {x : Bs} (h : Ext a w) (hg : w.grownBy w' v.ownBlock) (ho : OwnB w base v x) (hb : a.heap.size ≤ base) : Ext a w' :=
  h.grown hg (fun k hk => Nat.le_trans hb (ho.out.lt k hk).1)

theorem r1number_z (z : Int) (w : World) (h0 : 0 ≤ z) (h1 : z ≤ 2147483647) :
    Calls Try.prog 53 #[.int .u64 z] w fun e w' => ∃ v', e = .returned v' ∧ OwnB w' w.heap.size v' (numB z.toNat) ∧ Ext w w' := by
  have := r1number_any z.toNat w (by omega)
  rwa [Int.toNat_of_nonneg h0] at this

set_option maxRecDepth 100000 in
set_option maxHeartbeats 2000000 in
theorem rentB_any (v : Value) (x : Ent) (w : World) (hx : RdE w v x) (hm : mayE x = true) :
    Calls Try.prog 20 #[v] w fun e w' => ∃ v', e = .returned v' ∧ OwnB w' w.heap.size v' (entB x) ∧ Ext w w' := by
  have hM := mayE_iff.1 hm
  obtain ⟨A, n, c, A', n', c', rfl, hx1, hx2, _, h2, _, h4⟩ := hx
  have e1 := hx1.1
  have e2 := hx2.1
  have hb := blk1 w (.cells #[.slice A n c, .int .i64 x.seq, .int .i64 x.kind, .slice A' n' c'] 25)
  have hbox := Lib.hid hb
  clear hb
  have hl1 : n ≤ 32 := by rw [← e1]; exact hM.2.1
  have hn32 : n ≤ B40 := by unfold B40; omega
  have hs1 : 1 ≤ x.seq := hM.2.2.1
  have hs2 : x.seq ≤ 2147483647 := hM.2.2.2.1
  have hl2 : n' ≤ 65536 := by rw [← e2]; exact hM.2.2.2.2.1
  have hv : n' ≤ B40 := by unfold B40; omega
  have hk12 : x.kind = 1 ∨ x.kind = 2 := hM.2.2.2.2.2.imp id (fun h => h.1)
  have hk1 : 1 ≤ x.kind := by omega
  have hk2 : x.kind ≤ 2 := by omega
  clear hM
  have j1 : (bytB x.key).length ≤ 42 := by unfold bytB; have := numB_length x.key.length; simp; omega
  have j2 := numB_length x.seq.toNat
  have j3 := numB_length x.kind.toNat
  have j4 : (bytB x.val).length ≤ 65546 := by unfold bytB; have := numB_length x.val.length; simp; omega
  have hq1 : IntKind.u64.wrap x.seq = x.seq := by rw [IntKind.wrap_u64]; omega
  have hq2 : IntKind.u64.wrap x.kind = x.kind := by rw [IntKind.wrap_u64]; omega
  have HK := Lib.hid hk12
  have KX := Lib.hid hx1
  have KY := Lib.hid hx2
  clear hk12 e1 e2 hx1 hx2
  go_enter Try.func20, Try.ntmps20
  go_wp2_with fail
  refine wp_region_held_drew (S := (fun w' => w'.cell? ⟨w.heap.size, 0, none⟩ = some (.slice A n c) ∧ w'.cell? ⟨w.heap.size, 1, none⟩ = some (.int .i64 x.seq) ∧ w'.cell? ⟨w.heap.size, 2, none⟩ = some (.int .i64 x.kind) ∧ w'.cell? ⟨w.heap.size, 3, none⟩ = some (.slice A' n' c') ∧ w'.frozen? ⟨w.heap.size, 0, none⟩ = false ∧ w'.frozen? ⟨w.heap.size, 1, none⟩ = false ∧ w'.frozen? ⟨w.heap.size, 2, none⟩ = false ∧ w'.frozen? ⟨w.heap.size, 3, none⟩ = false)) (by kernel_rfl) (by (try dsimp only); exact box4 hbox.out (by with_reducible (repeat (first | exact Ext.rfl_ _ | assumption | refine Ext.drew ?_ | refine Ext.drewN ?_ _ | refine Ext.alloc ?_ _ | refine Ext.trans ?_ (by assumption))))) (fun hHeld => ?_)
  refine wpAnyH_take (i := 0) (oi := ({ dst := some 4, op := .fieldAddr 25 (.tmp 1) 0, type := 0, pos := "ref.go:97", after := #[], guard := none } : Go.Oper)) (v := ?v1) rfl (by kernel_rfl) (by kernel_rfl) (by kernel_rfl) (fun _ _ _ h => h) (Or.inl ⟨by rfl, ?hy1⟩) (by assumption) ?rest1
  case hy1 => (intro w hSw; (try dsimp only at hSw); go_simp; (try with_reducible rfl))
  (try simp only [Act.put, List.getElem_toArray, List.getElem_cons_zero, List.getElem_cons_succ, List.setIfInBounds_toArray, List.set_cons_zero, List.set_cons_succ])
  refine wpAnyH_take (i := 1) (oi := ({ dst := some 5, op := .load 22 (.tmp 4), type := 22, pos := "ref.go:97", after := #[⟨0, .data⟩], guard := none } : Go.Oper)) (v := ?v2) rfl (by kernel_rfl) (by kernel_rfl) (by kernel_rfl) (fun _ _ _ h => h) (Or.inl ⟨by rfl, ?hy2⟩) (by assumption) ?rest2
  case hy2 => (intro w hSw; (try dsimp only at hSw); go_simp; (try with_reducible rfl))
  (try simp only [Act.put, List.getElem_toArray, List.getElem_cons_zero, List.getElem_cons_succ, List.setIfInBounds_toArray, List.set_cons_zero, List.set_cons_succ])
  refine wpAnyH_take (i := 3) (oi := ({ dst := some 7, op := .fieldAddr 25 (.tmp 1) 1, type := 0, pos := "ref.go:97", after := #[], guard := none } : Go.Oper)) (v := ?v3) rfl (by kernel_rfl) (by kernel_rfl) (by kernel_rfl) (fun _ _ _ h => h) (Or.inl ⟨by rfl, ?hy3⟩) (by assumption) ?rest3
  case hy3 => (intro w hSw; (try dsimp only at hSw); go_simp; (try with_reducible rfl))
  (try simp only [Act.put, List.getElem_toArray, List.getElem_cons_zero, List.getElem_cons_succ, List.setIfInBounds_toArray, List.set_cons_zero, List.set_cons_succ])
  refine wpAnyH_take (i := 4) (oi := ({ dst := some 8, op := .load 2 (.tmp 7), type := 2, pos := "ref.go:97", after := #[⟨3, .data⟩], guard := none } : Go.Oper)) (v := ?v4) rfl (by kernel_rfl) (by kernel_rfl) (by kernel_rfl) (fun _ _ _ h => h) (Or.inl ⟨by rfl, ?hy4⟩) (by assumption) ?rest4
  case hy4 => (intro w hSw; (try dsimp only at hSw); go_simp; (try with_reducible rfl))
  (try simp only [Act.put, List.getElem_toArray, List.getElem_cons_zero, List.getElem_cons_succ, List.setIfInBounds_toArray, List.set_cons_zero, List.set_cons_succ])
  refine wpAnyH_take (i := 5) (oi := ({ dst := some 9, op := .convert 2 69 (.tmp 8), type := 69, pos := "ref.go:97", after := #[⟨4, .data⟩], guard := none } : Go.Oper)) (v := ?v5) rfl (by kernel_rfl) (by kernel_rfl) (by kernel_rfl) (fun _ _ _ h => h) (Or.inl ⟨by rfl, ?hy5⟩) (by assumption) ?rest5
  case hy5 => (intro w hSw; (try dsimp only at hSw); go_simp; (try with_reducible rfl))
  (try simp only [Act.put, List.getElem_toArray, List.getElem_cons_zero, List.getElem_cons_succ, List.setIfInBounds_toArray, List.set_cons_zero, List.set_cons_succ])
  refine wpAnyH_ready (rs := [2]) (by kernel_rfl) (by simp) ?_
  refine AllReadyH.cons (o := ({ dst := some 6, op := .call { callee := .value (.func 52), args := #[.tmp 5], argTypes := #[22] }, type := 22, pos := "ref.go:97", after := #[⟨1, .data⟩], guard := none } : Go.Oper)) rfl (fun K hK => ?_) AllReadyH.nil
  go_simp
  (first | (go_at_call 52; refine (r1bytes_any A n c x.key _ (KX.out.ext (by with_reducible (repeat (first | exact Ext.rfl_ _ | assumption | refine Ext.drew ?_ | refine Ext.drewN ?_ _ | refine Ext.alloc ?_ _ | refine Ext.trans ?_ (by assumption))))) hn32).mono ?_; rintro e w2 ⟨v2, rfl, o2, hw2⟩; replace o2 := o2.mono (base' := w.heap.size + 1) (Nat.le_trans (Nat.le_of_eq (World.size_alloc w _).symm) (Ext.size (w := w.alloc (.cells #[.slice A n c, .int .i64 x.seq, .int .i64 x.kind, .slice A' n' c'] 25)) (by with_reducible (repeat (first | exact Ext.rfl_ _ | assumption | refine Ext.drew ?_ | refine Ext.drewN ?_ _ | refine Ext.alloc ?_ _ | refine Ext.trans ?_ (by assumption))))))) | (go_at_call 53; refine (r1number_z x.seq _ (by omega) (by omega)).mono ?_; rintro e w3 ⟨v3, rfl, o3, hw3⟩; obtain ⟨A3, n3, c3, rfl, l3, r3, i3⟩ := o3.formN))
  (try (go_wp2_with fail))
  refine hK.out _ _ (by (try dsimp only); exact box4 hbox.out (by with_reducible (repeat (first | exact Ext.rfl_ _ | assumption | refine Ext.drew ?_ | refine Ext.drewN ?_ _ | refine Ext.alloc ?_ _ | refine Ext.trans ?_ (by assumption))))) (fun hHeld => ?_)
  clear hK K
  (try simp only [Act.put, List.getElem_toArray, List.getElem_cons_zero, List.getElem_cons_succ, List.setIfInBounds_toArray, List.set_cons_zero, List.set_cons_succ])
  refine wpAnyH_ready (rs := [6]) (by kernel_rfl) (by simp) ?_
  refine AllReadyH.cons (o := ({ dst := some 10, op := .call { callee := .value (.func 53), args := #[.tmp 9], argTypes := #[69] }, type := 22, pos := "ref.go:97", after := #[⟨5, .data⟩, ⟨2, .chain⟩], guard := none } : Go.Oper)) rfl (fun K hK => ?_) AllReadyH.nil
  go_simp
  (first | (go_at_call 52; refine (r1bytes_any A n c x.key _ (KX.out.ext (by with_reducible (repeat (first | exact Ext.rfl_ _ | assumption | refine Ext.drew ?_ | refine Ext.drewN ?_ _ | refine Ext.alloc ?_ _ | refine Ext.trans ?_ (by assumption))))) hn32).mono ?_; rintro e w2 ⟨v2, rfl, o2, hw2⟩; replace o2 := o2.mono (base' := w.heap.size + 1) (Nat.le_trans (Nat.le_of_eq (World.size_alloc w _).symm) (Ext.size (w := w.alloc (.cells #[.slice A n c, .int .i64 x.seq, .int .i64 x.kind, .slice A' n' c'] 25)) (by with_reducible (repeat (first | exact Ext.rfl_ _ | assumption | refine Ext.drew ?_ | refine Ext.drewN ?_ _ | refine Ext.alloc ?_ _ | refine Ext.trans ?_ (by assumption))))))) | (go_at_call 53; refine (r1number_z x.seq _ (by omega) (by omega)).mono ?_; rintro e w3 ⟨v3, rfl, o3, hw3⟩; obtain ⟨A3, n3, c3, rfl, l3, r3, i3⟩ := o3.formN))
  (try (go_wp2_with fail))
  refine hK.out _ _ (by (try dsimp only); exact box4 hbox.out (by with_reducible (repeat (first | exact Ext.rfl_ _ | assumption | refine Ext.drew ?_ | refine Ext.drewN ?_ _ | refine Ext.alloc ?_ _ | refine Ext.trans ?_ (by assumption))))) (fun hHeld => ?_)
  clear hK K
  (try simp only [Act.put, List.getElem_toArray, List.getElem_cons_zero, List.getElem_cons_succ, List.setIfInBounds_toArray, List.set_cons_zero, List.set_cons_succ])
  refine wpAnyH_ready (rs := [7]) (by kernel_rfl) (by simp) ?_
  refine AllReadyH.cons (o := ({ dst := some 11, op := .call { callee := .builtin .append, args := #[.tmp 6, .tmp 10], argTypes := #[22, 22] }, type := 22, pos := "ref.go:97", after := #[⟨2, .data⟩, ⟨6, .data⟩, ⟨6, .chain⟩], guard := none } : Go.Oper)) rfl (fun K hK => ?_) AllReadyH.nil
  refine step_app rfl _ _ rfl (w.heap.size + 1) v2 (bytB x.key) rfl (o2.ext (by with_reducible (repeat (first | exact Ext.rfl_ _ | assumption | refine Ext.drew ?_ | refine Ext.drewN ?_ _ | refine Ext.alloc ?_ _ | refine Ext.trans ?_ (by assumption))))) A3 n3 c3 (numB x.seq.toNat) rfl (r3.ext (by with_reducible (repeat (first | exact Ext.rfl_ _ | assumption | refine Ext.drew ?_ | refine Ext.drewN ?_ _ | refine Ext.alloc ?_ _ | refine Ext.trans ?_ (by assumption))))) (by unfold B47; omega) (Nat.le_trans (Nat.le_of_eq (World.size_alloc w _).symm) (Ext.size (w := w.alloc (.cells #[.slice A n c, .int .i64 x.seq, .int .i64 x.kind, .slice A' n' c'] 25)) (by with_reducible (repeat (first | exact Ext.rfl_ _ | assumption | refine Ext.drew ?_ | refine Ext.drewN ?_ _ | refine Ext.alloc ?_ _ | refine Ext.trans ?_ (by assumption)))))) ?_; intro v5 w5 o5 g5 _; have x5 : Ext (w.alloc (.cells #[.slice A n c, .int .i64 x.seq, .int .i64 x.kind, .slice A' n' c'] 25)) w5 := Ext.growBy (by with_reducible (repeat (first | exact Ext.rfl_ _ | assumption | refine Ext.drew ?_ | refine Ext.drewN ?_ _ | refine Ext.alloc ?_ _ | refine Ext.trans ?_ (by assumption)))) g5 (OwnB.ext o2 (by with_reducible (repeat (first | exact Ext.rfl_ _ | assumption | refine Ext.drew ?_ | refine Ext.drewN ?_ _ | refine Ext.alloc ?_ _ | refine Ext.trans ?_ (by assumption))))) (by simp)
  refine hK.out _ _ (by (try dsimp only); exact box4 hbox.out (by with_reducible (repeat (first | exact Ext.rfl_ _ | assumption | refine Ext.drew ?_ | refine Ext.drewN ?_ _ | refine Ext.alloc ?_ _ | refine Ext.trans ?_ (by assumption))))) (fun hHeld => ?_)
  clear hK K
  (try simp only [Act.put, List.getElem_toArray, List.getElem_cons_zero, List.getElem_cons_succ, List.setIfInBounds_toArray, List.set_cons_zero, List.set_cons_succ])
  refine wpAnyH_take (i := 8) (oi := ({ dst := some 3, op := .assign (.tmp 11), type := 22, pos := "ref.go:97", after := #[⟨7, .data⟩, ⟨7, .chain⟩, ⟨0, .phase⟩, ⟨1, .phase⟩, ⟨2, .phase⟩, ⟨3, .phase⟩, ⟨4, .phase⟩, ⟨5, .phase⟩, ⟨6, .phase⟩, ⟨7, .phase⟩], guard := none } : Go.Oper)) (v := ?v6) rfl (by kernel_rfl) (by kernel_rfl) (by kernel_rfl) (fun _ _ _ h => h) (Or.inl ⟨by rfl, ?hy6⟩) (by assumption) ?rest6
  case hy6 => (intro w hSw; (try dsimp only at hSw); go_simp; (try with_reducible rfl))
  (try simp only [Act.put, List.getElem_toArray, List.getElem_cons_zero, List.getElem_cons_succ, List.setIfInBounds_toArray, List.set_cons_zero, List.set_cons_succ])
  refine wpAnyH_done (by kernel_rfl) ?_ _
  all_goals
    have y5 : Ext w w5 := (Ext.alloc (Ext.rfl_ w) _).trans x5
    have HB := Lib.hid (box4 hbox.out x5)
    clear hw2 hw3 g5
    obtain ⟨g0, g1, g2, g3, f0, f1, f2, f3⟩ := HB.out
    go_wp2_with fail
    refine (r1number_z x.kind _ (by omega) (by omega)).mono ?_
    rintro e w6 ⟨v6, rfl, o6, hw6⟩
    obtain ⟨A6, n6, c6, rfl, l6, r6, i6⟩ := o6.formN
    have z5 : w.heap.size + 1 ≤ w5.heap.size := by have := Ext.size x5; simpa using this
    rcases HK.out with hk | hk
    · have hkb : (x.kind == 1) = true := by simpa using hk
      have HK1 := Lib.hid hk
      clear hk
      go_wp2_with (at_builtin; have e1 : OwnB w6 (w.heap.size + 1) v5 (bytB x.key ++ numB x.seq.toNat) := o5.ext hw6; have e2 : (bytB x.key ++ numB x.seq.toNat).length + (numB x.kind.toNat).length ≤ B47 := (by rw [List.length_append]; unfold B47; omega); refine wp_app rfl _ _ rfl (w.heap.size + 1) v5 _ rfl e1 A6 n6 c6 (numB x.kind.toNat) rfl r6 e2 (Nat.le_trans z5 (Ext.size hw6)) ?_; clear e1 e2; intro v7 w7 o7 g7; have x7 : Ext (w.alloc (.cells #[.slice A n c, .int .i64 x.seq, .int .i64 x.kind, .slice A' n' c'] 25)) w7 := Ext.growBy (x5.trans hw6) g7 (OwnB.ext o5 hw6) (by simp); have y7 : Ext w w7 := (Ext.alloc (Ext.rfl_ w) _).trans x7; obtain ⟨g0, g1, g2, g3, f0, f1, f2, f3⟩ := box4 hbox.out x7; have z7 : w.heap.size + 1 ≤ w7.heap.size := (by have := Ext.size x7; simpa using this); clear g7)
      refine (r1bytes_any A' n' c' x.val _ (KY.out.ext (by with_reducible (repeat (first | exact Ext.rfl_ _ | assumption | refine Ext.drew ?_ | refine Ext.drewN ?_ _ | refine Ext.alloc ?_ _ | refine Ext.trans ?_ (by assumption))))) hv).mono ?_
      rintro e w8 ⟨v8, rfl, o8, hw8⟩
      obtain ⟨A8, n8, c8, rfl, l8, r8, i8⟩ := o8.formN
      go_wp2_with (at_builtin; have e1 : OwnB w8 (w.heap.size + 1) v7 (bytB x.key ++ numB x.seq.toNat ++ numB x.kind.toNat) := o7.ext hw8; have e2 : (bytB x.key ++ numB x.seq.toNat ++ numB x.kind.toNat).length + (bytB x.val).length ≤ B47 := (by rw [List.length_append, List.length_append]; unfold B47; omega); refine wp_app rfl _ _ rfl (w.heap.size + 1) v7 _ rfl e1 A8 n8 c8 (bytB x.val) rfl r8 e2 (Nat.le_trans z7 (Ext.size hw8)) ?_; clear e1 e2; intro v9 w9 o9 g9)
      go_ret
      refine ⟨v9, rfl, ?_, ?_⟩
      · unfold entB; rw [if_pos HK1.out]
        have := o9.mono (base' := w.heap.size) (by omega)
        simpa [List.append_assoc] using this
      · exact Ext.growBy (y7.trans hw8) g9 (o7.ext hw8) (by omega)
    · have hkb : (x.kind == 1) = false := by simp; omega
      have HK1 := Lib.hid hk
      clear hk
      go_wp2_with (at_builtin; have e1 : OwnB w6 (w.heap.size + 1) v5 (bytB x.key ++ numB x.seq.toNat) := o5.ext hw6; have e2 : (bytB x.key ++ numB x.seq.toNat).length + (numB x.kind.toNat).length ≤ B47 := (by rw [List.length_append]; unfold B47; omega); refine wp_app rfl _ _ rfl (w.heap.size + 1) v5 _ rfl e1 A6 n6 c6 (numB x.kind.toNat) rfl r6 e2 (Nat.le_trans z5 (Ext.size hw6)) ?_; clear e1 e2; intro v7 w7 o7 g7; have x7 : Ext (w.alloc (.cells #[.slice A n c, .int .i64 x.seq, .int .i64 x.kind, .slice A' n' c'] 25)) w7 := Ext.growBy (x5.trans hw6) g7 (OwnB.ext o5 hw6) (by simp); have y7 : Ext w w7 := (Ext.alloc (Ext.rfl_ w) _).trans x7; obtain ⟨g0, g1, g2, g3, f0, f1, f2, f3⟩ := box4 hbox.out x7; have z7 : w.heap.size + 1 ≤ w7.heap.size := (by have := Ext.size x7; simpa using this); clear g7)
      go_ret
      refine ⟨v7, rfl, ?_, y7⟩
      unfold entB; rw [if_neg (by rw [HK1.out]; decide)]
      have := o7.mono (base' := w.heap.size) (by omega)
      simpa [List.append_assoc] using this

end Go.Proofs.Ytpohmoakilioiaa
