/- The library's stable sort: symMerge. Conditions: the row is there. -/
import Derived.Test.YtpohmoakilioiaaStY
import Derived.Deep.CutRange
namespace Go.Proofs.Ytpohmoakilioiaa
set_option linter.unusedSimpArgs false
set_option linter.unusedVariables false
set_option maxRecDepth 100000
open Go.Shelf Go.RowKit Go.Lib Go.Sort
variable {P : Program} {α : Type} [Inhabited α]

set_option maxHeartbeats 32000000 in
set_option maxRecDepth 1000000 in
theorem symMerge_any (k : Nat) (L : LyT P k) (enc : α → List Value) (cf : α → α → Int) (g : Nat) (cb : Array Value) (blk off cap : Nat) (d0 : Array α) (w0 : World)
    (eg : ∀ args w, (callFunc g args).run P w = .ok (.enter g args) w) (hcmp : CmpLays P g cb enc k cf blk off d0.size w0) (hO : SWO (ltOf cf)) (ix : α → Nat) (R : RowK enc k w0 blk off d0) (hsz : d0.size < 1099511627776) :
    ∀ (N a m b : Nat) (d : Array α) (w : World), b - a ≤ N → d0.size = d.size → SWK enc k w0 blk off d w → a < m → m < b → b ≤ d.size → SortedIn (ltOf cf) a m d → SortedIn (ltOf cf) m b d →
    Calls P 92 #[.slice (some ⟨blk, off, none⟩) d.size cap, .int .i64 a, .int .i64 m, .int .i64 b, .func (.func g) #[] cb] w fun e w' => e = .returned (.tuple #[]) ∧ ∃ d', Mrg (ltOf cf) ix d d' a b ∧ SWK enc k w0 blk off d' w' := by
  intro N
  induction N with
  | zero => intro a m b d w hN hs S ham hmb; omega
  | succ N ih =>
  intro a m b d w hN hs S ham hmb hb h1 h2
  by_cases honeL : m = a + 1
  · exact symOneL k L enc cf g cb blk off cap a m b d0 d w0 w eg hcmp hO ix R hs S ham hmb hb h1 h2 (by omega) honeL
  by_cases honeR : b = m + 1
  · exact symOneR k L enc cf g cb blk off cap a m b d0 d w0 w eg hcmp hO ix R hs S ham hmb hb h1 h2 (by omega) honeL honeR
  have mixed := L.mixed
  have tV := L.tV; have aV := L.aV; have zV := L.zV; have vV := L.vV
  have tI := L.tI; have aI := L.aI; have zI := L.zI; have vI := L.vI
  have tB := L.tB; have aB := L.aB; have zB := L.zB; have vB := L.vB
  have tS := L.tS; have aS := L.aS; have zS := L.zS; have vS := L.vS
  have tF := L.tF; have aF := L.aF; have zF := L.zF; have vF := L.vF
  have tU := L.tU; have aU := L.aU; have zU := L.zU; have vU := L.vU
  have aE := L.aE; have zE := L.zE
  have FG := L.symMerge
  have HC : Aside _ := hcmp
  have S0 : Aside (SWK enc k w0 blk off d w) := S
  have HS1 : Hid _ := h1
  have HS2 : Hid _ := h2
  clear S hcmp h1 h2
  have eRO : ∀ args w, (callFunc 93 args).run P w = .ok (.enter 93 args) w := enters_of L.rotate (by kernel_rfl) rfl
  have eSY : ∀ args w, (callFunc 92 args).run P w = .ok (.enter 92 args) w := enters_of L.symMerge (by kernel_rfl) rfl
  have h1z : ¬ ((m : Int) - (a : Int) = 1) := by omega
  have h1b : ((m : Int) - (a : Int) == 1) = false := by simpa using h1z
  have h2z : ¬ ((b : Int) - (m : Int) = 1) := by omega
  have h2b : ((b : Int) - (m : Int) == 1) = false := by simpa using h2z
  obtain ⟨mid, hmid⟩ : ∃ mid, mid = (a + b) / 2 := ⟨_, rfl⟩
  have hmz : Hid (((a : Int) + (b : Int)) / 2 = (mid : Int)) := by show _ = _; omega
  have HMID : Hid (mid = (a + b) / 2) := hmid
  have hszd : d.size < 1099511627776 := by omega
  have hm1 : a < mid := by omega
  have hm2 : mid < b := by omega
  clear hmid
  go_enter FG, Try.ntmps92
  by_cases hgt : mid < m
  · have hgz : (mid : Int) < (m : Int) := by omega
    have hb1 : a ≤ mid + m - b ∧ mid ≤ m ∧ mid ≤ mid ∧ mid + m ≤ b + (mid + m - b) ∧ b ≤ mid + m := by have := HMID.out; omega
    go_upto_region 25 with fail
    rw [hmz.out]
    go_wp2
    go_loopg [20, 21] (mid - (mid + m - b)) (fun kx s10 s11 wr => ∃ (s r : Nat), s10 = .int .i64 s ∧ s11 = .int .i64 r ∧ mid + m - b ≤ s ∧ s ≤ r ∧ r ≤ mid ∧ r - s ≤ kx ∧ Hid ((mid + m - b < s → ltOf cf d[mid + m - s]! d[s - 1]! = false) ∧ (r < mid → ltOf cf d[mid + m - 1 - r]! d[r]! = true)) ∧ Aside (SWK enc k w0 blk off d wr))
    case atStart => exact ⟨mid + m - b, mid, by go_num, by go_num, Nat.le_refl _, by omega, Nat.le_refl _, Nat.le_refl _, ⟨fun h => by omega, fun h => by omega⟩, S0⟩
    case round =>
      clear S0
      obtain ⟨s, r, rfl, rfl, hsts, hsr, hr, hkx, HQ, S1⟩ := hrel
      by_cases hlt : s < r
      · have hltz : (s : Int) < (r : Int) := by omega
        obtain ⟨c, hc⟩ : ∃ c, c = (s + r) / 2 := ⟨_, rfl⟩
        have hcz : Hid (((s : Int) + (r : Int)) / 2 = (c : Int)) := by show _ = _; omega
        have hc1 : s ≤ c := by omega
        have hpz : (c : Int) ≤ (mid : Int) + (m : Int) - 1 := by omega
        have hc2 : c < r := by omega
        clear hc
        cases hL : ltOf cf d[mid + m - 1 - c]! d[c]! with
        | true =>
          go_upto_region 35 with fail
          rw [hcz.out]
          go_wp2_with fail
          have ea5 : ((mid : Int) + (m : Int) - 1 - (c : Int)).toNat = mid + m - 1 - c := by omega
          have pa5 : (0 : Int) ≤ (mid : Int) + (m : Int) - 1 - (c : Int) := by omega
          have ba5 : (mid : Int) + (m : Int) - 1 - (c : Int) < (d.size : Int) := by omega
          have ra5 : IntKind.i64.wrap ((mid : Int) + (m : Int) - 1 - (c : Int)) = (mid : Int) + (m : Int) - 1 - (c : Int) := by rw [IntKind.wrap_i64]; omega
          have ec5 : ((c : Int)).toNat = c := by omega
          have pc5 : (0 : Int) ≤ (c : Int) := by omega
          have bc5 : (c : Int) < (d.size : Int) := by omega
          have rc5 : IntKind.i64.wrap ((c : Int)) = (c : Int) := by rw [IntKind.wrap_i64]; omega
          obtain ⟨x5, hx5⟩ : ∃ x, x = d[mid + m - 1 - c]! := ⟨_, rfl⟩
          obtain ⟨y5, hy5⟩ : ∃ x, x = d[c]! := ⟨_, rfl⟩
          have l5a := S1.out.ld R (by omega) P (mid + m - 1 - c) (by omega)
          have l5b := S1.out.ld R (by omega) P (c) (by omega)
          rw [← hx5] at l5a
          rw [← hy5] at l5b
          have hc5 := S1.out.cmp HC.out (by omega) x5 y5
          have hv5 : cf x5 y5 < 0 := by rw [hx5, hy5]; exact of_decide_eq_true hL
          have hd5 : decide (cf x5 y5 < 0) = true := decide_eq_true hv5
          clear hx5 hy5
          go_wp2_with fail
          go_quiet_grown (first | (go_at_fn g; refine Calls.grown_of (hc5 _ _)))
          have S2 : Aside (SWK enc k w0 blk off d (grow (wr.drewN nq) osq)) := S1.out.grown nq osq
          clear l5a l5b hc5 S1
          generalize grow (wr.drewN nq) osq = w2 at S2 ⊢
          clear nq osq
          go_wp2
          go_roundg (c - s)
          case measure => omega
          case rel => exact ⟨s, c, rfl, by go_num, hsts, hc1, by omega, Nat.le_refl _, ⟨HQ.out.1, fun _ => hL⟩, S2⟩
        | false =>
          go_upto_region 35 with fail
          rw [hcz.out]
          go_wp2_with fail
          have ea5 : ((mid : Int) + (m : Int) - 1 - (c : Int)).toNat = mid + m - 1 - c := by omega
          have pa5 : (0 : Int) ≤ (mid : Int) + (m : Int) - 1 - (c : Int) := by omega
          have ba5 : (mid : Int) + (m : Int) - 1 - (c : Int) < (d.size : Int) := by omega
          have ra5 : IntKind.i64.wrap ((mid : Int) + (m : Int) - 1 - (c : Int)) = (mid : Int) + (m : Int) - 1 - (c : Int) := by rw [IntKind.wrap_i64]; omega
          have ec5 : ((c : Int)).toNat = c := by omega
          have pc5 : (0 : Int) ≤ (c : Int) := by omega
          have bc5 : (c : Int) < (d.size : Int) := by omega
          have rc5 : IntKind.i64.wrap ((c : Int)) = (c : Int) := by rw [IntKind.wrap_i64]; omega
          obtain ⟨x5, hx5⟩ : ∃ x, x = d[mid + m - 1 - c]! := ⟨_, rfl⟩
          obtain ⟨y5, hy5⟩ : ∃ x, x = d[c]! := ⟨_, rfl⟩
          have l5a := S1.out.ld R (by omega) P (mid + m - 1 - c) (by omega)
          have l5b := S1.out.ld R (by omega) P (c) (by omega)
          rw [← hx5] at l5a
          rw [← hy5] at l5b
          have hc5 := S1.out.cmp HC.out (by omega) x5 y5
          have hv5 : ¬ cf x5 y5 < 0 := by rw [hx5, hy5]; exact of_decide_eq_false hL
          have hd5 : decide (cf x5 y5 < 0) = false := decide_eq_false hv5
          clear hx5 hy5
          go_wp2_with fail
          go_quiet_grown (first | (go_at_fn g; refine Calls.grown_of (hc5 _ _)))
          have S2 : Aside (SWK enc k w0 blk off d (grow (wr.drewN nq) osq)) := S1.out.grown nq osq
          clear l5a l5b hc5 S1
          generalize grow (wr.drewN nq) osq = w2 at S2 ⊢
          clear nq osq
          go_wp2
          go_roundg (r - (c + 1))
          case measure => omega
          case rel => exact ⟨c + 1, r, by go_num, rfl, by omega, by omega, hr, Nat.le_refl _, ⟨fun _ => by rw [show mid + m - (c + 1) = mid + m - 1 - c from by omega]; exact hL, HQ.out.2⟩, S2⟩
      · obtain rfl : s = r := by omega
        have hltz : ¬ (s : Int) < (s : Int) := by omega
        obtain ⟨e, he⟩ : ∃ e, e = mid + m - s := ⟨_, rfl⟩
        have hez : Hid ((mid : Int) + (m : Int) - (s : Int) = (e : Int)) := by show _ = _; omega
        go_upto_region 39 with fail
        rw [hez.out]
        have CUT : Hid (Cut (ltOf cf) d a s m e b) := by
          show Cut (ltOf cf) d a s m e b
          rw [he]
          exact cut_of (st := mid + m - b) (r := mid) hO HS1.out HS2.out ham hmb HMID.out (if_pos (show m > mid by omega)).symm (if_pos (show m > mid by omega)).symm hsts hr HQ.out.1 HQ.out.2
        have HME : Hid (mid = s + (e - m)) := by have := CUT.out.me; show _ = _; omega
        have hme2 : mid + m = s + e := by have := CUT.out.me; omega
        have hmle : m ≤ e := CUT.out.me
        have heb : e ≤ b := CUT.out.eb
        have has : a ≤ s := CUT.out.as
        have hsm : s ≤ m := CUT.out.sm
        clear HQ hb1 hsts hr hkx hsr he
        by_cases k1 : s < m
        · by_cases k2 : m < e
          · by_cases k3 : a < s
            · by_cases k6 : e < b
              · have c1z : (s : Int) < (m : Int) := by omega
                have c1b : decide ((s : Int) < (m : Int)) = true := decide_eq_true (by omega)
                have c2z : (m : Int) < (e : Int) := by omega
                have c2b : decide ((m : Int) < (e : Int)) = true := decide_eq_true (by omega)
                have c3z : (a : Int) < (s : Int) := by omega
                have c3b : decide ((a : Int) < (s : Int)) = true := decide_eq_true (by omega)
                have c4z : (s : Int) < (mid : Int) := by omega
                have c4b : decide ((s : Int) < (mid : Int)) = true := decide_eq_true (by omega)
                have c5z : (mid : Int) < (e : Int) := by omega
                have c5b : decide ((mid : Int) < (e : Int)) = true := decide_eq_true (by omega)
                have c6z : (e : Int) < (b : Int) := by omega
                have c6b : decide ((e : Int) < (b : Int)) = true := decide_eq_true (by omega)
                have hcall := rotate_any k L enc cf g cb blk off cap s m e d0 d w0 wr R hs S1.out (by omega) (by omega) (by omega) (by omega)
                clear S1
                go_wp2_with (go_at_fn 93; refine hcall.mono ?_; rintro ex w6 ⟨rfl, d1, r1, p1, S6r⟩)
                have S6 : Aside (SWK enc k w0 blk off d1 w6) := S6r
                clear S6r
                have ROT : Hid (Rot d d1 s m e ∧ PermIn s e d d1) := ⟨r1, p1⟩
                have hz1 : d1.size = d.size := r1.size
                clear r1 p1
                have HH : Hid _ := CUT.out.halves hO ROT.out.1 HS1.out HS2.out HME.out
                have hcall := ih a s mid d1 _ (by omega) (by omega) S6.out (by omega) (by omega) (by omega) HH.out.1 HH.out.2.1
                rw [show d1.size = d.size from hz1] at hcall
                clear S6
                go_wp2_with (go_at_fn 92; refine hcall.mono ?_; rintro ex w7 ⟨rfl, d2, m2, S7r⟩)
                have S7 : Aside (SWK enc k w0 blk off d2 w7) := S7r
                clear S7r
                have M2 : Hid (Mrg (ltOf cf) ix d1 d2 a mid) := m2
                have hz2 : d2.size = d.size := m2.perm.1.trans hz1
                clear m2
                have hcall := ih mid e b d2 _ (by omega) (by omega) S7.out (by omega) (by omega) (by omega) (SortedIn.perm_out HH.out.2.2.1 M2.out.perm (.inr (Nat.le_refl _))) (SortedIn.perm_out HH.out.2.2.2.1 M2.out.perm (.inr (by omega)))
                rw [show d2.size = d.size from hz2] at hcall
                clear S7
                go_wp2_with (go_at_fn 92; refine hcall.mono ?_; rintro ex w8 ⟨rfl, d3, m3, S8⟩)
                go_end0
                exact ⟨rfl, d3, mrg_of hO CUT.out ROT.out.1 ROT.out.2 HME.out HS1.out HS2.out hb M2.out m3, S8⟩
              · have c1z : (s : Int) < (m : Int) := by omega
                have c1b : decide ((s : Int) < (m : Int)) = true := decide_eq_true (by omega)
                have c2z : (m : Int) < (e : Int) := by omega
                have c2b : decide ((m : Int) < (e : Int)) = true := decide_eq_true (by omega)
                have c3z : (a : Int) < (s : Int) := by omega
                have c3b : decide ((a : Int) < (s : Int)) = true := decide_eq_true (by omega)
                have c4z : (s : Int) < (mid : Int) := by omega
                have c4b : decide ((s : Int) < (mid : Int)) = true := decide_eq_true (by omega)
                have c5z : (mid : Int) < (e : Int) := by omega
                have c5b : decide ((mid : Int) < (e : Int)) = true := decide_eq_true (by omega)
                have c6z : ¬ (e : Int) < (b : Int) := by omega
                have c6b : decide ((e : Int) < (b : Int)) = false := decide_eq_false (by omega)
                have hcall := rotate_any k L enc cf g cb blk off cap s m e d0 d w0 wr R hs S1.out (by omega) (by omega) (by omega) (by omega)
                clear S1
                go_wp2_with (go_at_fn 93; refine hcall.mono ?_; rintro ex w6 ⟨rfl, d1, r1, p1, S6r⟩)
                have S6 : Aside (SWK enc k w0 blk off d1 w6) := S6r
                clear S6r
                have ROT : Hid (Rot d d1 s m e ∧ PermIn s e d d1) := ⟨r1, p1⟩
                have hz1 : d1.size = d.size := r1.size
                clear r1 p1
                have HH : Hid _ := CUT.out.halves hO ROT.out.1 HS1.out HS2.out HME.out
                have hcall := ih a s mid d1 _ (by omega) (by omega) S6.out (by omega) (by omega) (by omega) HH.out.1 HH.out.2.1
                rw [show d1.size = d.size from hz1] at hcall
                clear S6
                go_wp2_with (go_at_fn 92; refine hcall.mono ?_; rintro ex w7 ⟨rfl, d2, m2, S7r⟩)
                have S7 : Aside (SWK enc k w0 blk off d2 w7) := S7r
                clear S7r
                have M2 : Hid (Mrg (ltOf cf) ix d1 d2 a mid) := m2
                have hz2 : d2.size = d.size := m2.perm.1.trans hz1
                clear m2
                go_end0
                exact ⟨rfl, d2, mrg_of hO CUT.out ROT.out.1 ROT.out.2 HME.out HS1.out HS2.out hb M2.out (Mrg.idem (SortedIn.perm_out (show SortedIn (ltOf cf) mid b d1 from by have := HH.out.2.2.1; rwa [show e = b from by omega] at this) M2.out.perm (.inr (Nat.le_refl _)))), S7.out⟩
            · by_cases k6 : e < b
              · have c1z : (s : Int) < (m : Int) := by omega
                have c1b : decide ((s : Int) < (m : Int)) = true := decide_eq_true (by omega)
                have c2z : (m : Int) < (e : Int) := by omega
                have c2b : decide ((m : Int) < (e : Int)) = true := decide_eq_true (by omega)
                have c3z : ¬ (a : Int) < (s : Int) := by omega
                have c3b : decide ((a : Int) < (s : Int)) = false := decide_eq_false (by omega)
                have c4z : (s : Int) < (mid : Int) := by omega
                have c4b : decide ((s : Int) < (mid : Int)) = true := decide_eq_true (by omega)
                have c5z : (mid : Int) < (e : Int) := by omega
                have c5b : decide ((mid : Int) < (e : Int)) = true := decide_eq_true (by omega)
                have c6z : (e : Int) < (b : Int) := by omega
                have c6b : decide ((e : Int) < (b : Int)) = true := decide_eq_true (by omega)
                have hcall := rotate_any k L enc cf g cb blk off cap s m e d0 d w0 wr R hs S1.out (by omega) (by omega) (by omega) (by omega)
                clear S1
                go_wp2_with (go_at_fn 93; refine hcall.mono ?_; rintro ex w6 ⟨rfl, d1, r1, p1, S6r⟩)
                have S6 : Aside (SWK enc k w0 blk off d1 w6) := S6r
                clear S6r
                have ROT : Hid (Rot d d1 s m e ∧ PermIn s e d d1) := ⟨r1, p1⟩
                have hz1 : d1.size = d.size := r1.size
                clear r1 p1
                have HH : Hid _ := CUT.out.halves hO ROT.out.1 HS1.out HS2.out HME.out
                have M2 : Hid (Mrg (ltOf cf) ix d1 d1 a mid) := Mrg.idem (by have := HH.out.2.1; rwa [show s = a from by omega] at this)
                have hz2 : d1.size = d.size := hz1
                have hcall := ih mid e b d1 _ (by omega) (by omega) S6.out (by omega) (by omega) (by omega) (SortedIn.perm_out HH.out.2.2.1 M2.out.perm (.inr (Nat.le_refl _))) (SortedIn.perm_out HH.out.2.2.2.1 M2.out.perm (.inr (by omega)))
                rw [show d1.size = d.size from hz2] at hcall
                clear S6
                go_wp2_with (go_at_fn 92; refine hcall.mono ?_; rintro ex w8 ⟨rfl, d3, m3, S8⟩)
                go_end0
                exact ⟨rfl, d3, mrg_of hO CUT.out ROT.out.1 ROT.out.2 HME.out HS1.out HS2.out hb M2.out m3, S8⟩
              · have c1z : (s : Int) < (m : Int) := by omega
                have c1b : decide ((s : Int) < (m : Int)) = true := decide_eq_true (by omega)
                have c2z : (m : Int) < (e : Int) := by omega
                have c2b : decide ((m : Int) < (e : Int)) = true := decide_eq_true (by omega)
                have c3z : ¬ (a : Int) < (s : Int) := by omega
                have c3b : decide ((a : Int) < (s : Int)) = false := decide_eq_false (by omega)
                have c4z : (s : Int) < (mid : Int) := by omega
                have c4b : decide ((s : Int) < (mid : Int)) = true := decide_eq_true (by omega)
                have c5z : (mid : Int) < (e : Int) := by omega
                have c5b : decide ((mid : Int) < (e : Int)) = true := decide_eq_true (by omega)
                have c6z : ¬ (e : Int) < (b : Int) := by omega
                have c6b : decide ((e : Int) < (b : Int)) = false := decide_eq_false (by omega)
                have hcall := rotate_any k L enc cf g cb blk off cap s m e d0 d w0 wr R hs S1.out (by omega) (by omega) (by omega) (by omega)
                clear S1
                go_wp2_with (go_at_fn 93; refine hcall.mono ?_; rintro ex w6 ⟨rfl, d1, r1, p1, S6r⟩)
                have S6 : Aside (SWK enc k w0 blk off d1 w6) := S6r
                clear S6r
                have ROT : Hid (Rot d d1 s m e ∧ PermIn s e d d1) := ⟨r1, p1⟩
                have hz1 : d1.size = d.size := r1.size
                clear r1 p1
                have HH : Hid _ := CUT.out.halves hO ROT.out.1 HS1.out HS2.out HME.out
                have M2 : Hid (Mrg (ltOf cf) ix d1 d1 a mid) := Mrg.idem (by have := HH.out.2.1; rwa [show s = a from by omega] at this)
                have hz2 : d1.size = d.size := hz1
                go_end0
                exact ⟨rfl, d1, mrg_of hO CUT.out ROT.out.1 ROT.out.2 HME.out HS1.out HS2.out hb M2.out (Mrg.idem (SortedIn.perm_out (show SortedIn (ltOf cf) mid b d1 from by have := HH.out.2.2.1; rwa [show e = b from by omega] at this) M2.out.perm (.inr (Nat.le_refl _)))), S6.out⟩
          · have c1z : (s : Int) < (m : Int) := by omega
            have c1b : decide ((s : Int) < (m : Int)) = true := decide_eq_true (by omega)
            have c2z : ¬ (m : Int) < (e : Int) := by omega
            have c2b : decide ((m : Int) < (e : Int)) = false := decide_eq_false (by omega)
            have c3z : (a : Int) < (s : Int) := by omega
            have c3b : decide ((a : Int) < (s : Int)) = true := decide_eq_true (by omega)
            have c4z : ¬ (s : Int) < (mid : Int) := by omega
            have c4b : decide ((s : Int) < (mid : Int)) = false := decide_eq_false (by omega)
            have c5z : (mid : Int) < (e : Int) := by omega
            have c5b : decide ((mid : Int) < (e : Int)) = true := decide_eq_true (by omega)
            have c6z : (e : Int) < (b : Int) := by omega
            have c6b : decide ((e : Int) < (b : Int)) = true := decide_eq_true (by omega)
            have ROT : Hid (Rot d d s m e ∧ PermIn s e d d) := ⟨(by obtain rfl : e = m := (by omega); exact Rot.idR _ _ _), permIn_refl _ _ _⟩
            have HH : Hid _ := CUT.out.halves hO ROT.out.1 HS1.out HS2.out HME.out
            have M2 : Hid (Mrg (ltOf cf) ix d d a mid) := Mrg.idem (by have := HH.out.1; rwa [show s = mid from by omega] at this)
            have hcall := ih mid e b d _ (by omega) (by omega) S1.out (by omega) (by omega) (by omega) (SortedIn.perm_out HH.out.2.2.1 M2.out.perm (.inr (Nat.le_refl _))) (SortedIn.perm_out HH.out.2.2.2.1 M2.out.perm (.inr (by omega)))

            clear S1
            go_wp2_with (go_at_fn 92; refine hcall.mono ?_; rintro ex w8 ⟨rfl, d3, m3, S8⟩)
            go_end0
            exact ⟨rfl, d3, mrg_of hO CUT.out ROT.out.1 ROT.out.2 HME.out HS1.out HS2.out hb M2.out m3, S8⟩
        · exfalso; omega
  · have hgz : ¬ (mid : Int) < (m : Int) := by omega
    have hb1 : a ≤ a ∧ m ≤ m ∧ m ≤ mid ∧ mid + m ≤ b + (a) ∧ True := by have := HMID.out; refine ⟨?_, ?_, ?_, ?_, trivial⟩ <;> omega
    go_upto_region 25 with fail
    rw [hmz.out]
    go_wp2
    go_loopg [20, 21] (m - (a)) (fun kx s10 s11 wr => ∃ (s r : Nat), s10 = .int .i64 s ∧ s11 = .int .i64 r ∧ a ≤ s ∧ s ≤ r ∧ r ≤ m ∧ r - s ≤ kx ∧ Hid ((a < s → ltOf cf d[mid + m - s]! d[s - 1]! = false) ∧ (r < m → ltOf cf d[mid + m - 1 - r]! d[r]! = true)) ∧ Aside (SWK enc k w0 blk off d wr))
    case atStart => exact ⟨a, m, by go_num, by go_num, Nat.le_refl _, by omega, Nat.le_refl _, Nat.le_refl _, ⟨fun h => by omega, fun h => by omega⟩, S0⟩
    case round =>
      clear S0
      obtain ⟨s, r, rfl, rfl, hsts, hsr, hr, hkx, HQ, S1⟩ := hrel
      by_cases hlt : s < r
      · have hltz : (s : Int) < (r : Int) := by omega
        obtain ⟨c, hc⟩ : ∃ c, c = (s + r) / 2 := ⟨_, rfl⟩
        have hcz : Hid (((s : Int) + (r : Int)) / 2 = (c : Int)) := by show _ = _; omega
        have hc1 : s ≤ c := by omega
        have hpz : (c : Int) ≤ (mid : Int) + (m : Int) - 1 := by omega
        have hc2 : c < r := by omega
        clear hc
        cases hL : ltOf cf d[mid + m - 1 - c]! d[c]! with
        | true =>
          go_upto_region 35 with fail
          rw [hcz.out]
          go_wp2_with fail
          have ea5 : ((mid : Int) + (m : Int) - 1 - (c : Int)).toNat = mid + m - 1 - c := by omega
          have pa5 : (0 : Int) ≤ (mid : Int) + (m : Int) - 1 - (c : Int) := by omega
          have ba5 : (mid : Int) + (m : Int) - 1 - (c : Int) < (d.size : Int) := by omega
          have ra5 : IntKind.i64.wrap ((mid : Int) + (m : Int) - 1 - (c : Int)) = (mid : Int) + (m : Int) - 1 - (c : Int) := by rw [IntKind.wrap_i64]; omega
          have ec5 : ((c : Int)).toNat = c := by omega
          have pc5 : (0 : Int) ≤ (c : Int) := by omega
          have bc5 : (c : Int) < (d.size : Int) := by omega
          have rc5 : IntKind.i64.wrap ((c : Int)) = (c : Int) := by rw [IntKind.wrap_i64]; omega
          obtain ⟨x5, hx5⟩ : ∃ x, x = d[mid + m - 1 - c]! := ⟨_, rfl⟩
          obtain ⟨y5, hy5⟩ : ∃ x, x = d[c]! := ⟨_, rfl⟩
          have l5a := S1.out.ld R (by omega) P (mid + m - 1 - c) (by omega)
          have l5b := S1.out.ld R (by omega) P (c) (by omega)
          rw [← hx5] at l5a
          rw [← hy5] at l5b
          have hc5 := S1.out.cmp HC.out (by omega) x5 y5
          have hv5 : cf x5 y5 < 0 := by rw [hx5, hy5]; exact of_decide_eq_true hL
          have hd5 : decide (cf x5 y5 < 0) = true := decide_eq_true hv5
          clear hx5 hy5
          go_wp2_with fail
          go_quiet_grown (first | (go_at_fn g; refine Calls.grown_of (hc5 _ _)))
          have S2 : Aside (SWK enc k w0 blk off d (grow (wr.drewN nq) osq)) := S1.out.grown nq osq
          clear l5a l5b hc5 S1
          generalize grow (wr.drewN nq) osq = w2 at S2 ⊢
          clear nq osq
          go_wp2
          go_roundg (c - s)
          case measure => omega
          case rel => exact ⟨s, c, rfl, by go_num, hsts, hc1, by omega, Nat.le_refl _, ⟨HQ.out.1, fun _ => hL⟩, S2⟩
        | false =>
          go_upto_region 35 with fail
          rw [hcz.out]
          go_wp2_with fail
          have ea5 : ((mid : Int) + (m : Int) - 1 - (c : Int)).toNat = mid + m - 1 - c := by omega
          have pa5 : (0 : Int) ≤ (mid : Int) + (m : Int) - 1 - (c : Int) := by omega
          have ba5 : (mid : Int) + (m : Int) - 1 - (c : Int) < (d.size : Int) := by omega
          have ra5 : IntKind.i64.wrap ((mid : Int) + (m : Int) - 1 - (c : Int)) = (mid : Int) + (m : Int) - 1 - (c : Int) := by rw [IntKind.wrap_i64]; omega
          have ec5 : ((c : Int)).toNat = c := by omega
          have pc5 : (0 : Int) ≤ (c : Int) := by omega
          have bc5 : (c : Int) < (d.size : Int) := by omega
          have rc5 : IntKind.i64.wrap ((c : Int)) = (c : Int) := by rw [IntKind.wrap_i64]; omega
          obtain ⟨x5, hx5⟩ : ∃ x, x = d[mid + m - 1 - c]! := ⟨_, rfl⟩
          obtain ⟨y5, hy5⟩ : ∃ x, x = d[c]! := ⟨_, rfl⟩
          have l5a := S1.out.ld R (by omega) P (mid + m - 1 - c) (by omega)
          have l5b := S1.out.ld R (by omega) P (c) (by omega)
          rw [← hx5] at l5a
          rw [← hy5] at l5b
          have hc5 := S1.out.cmp HC.out (by omega) x5 y5
          have hv5 : ¬ cf x5 y5 < 0 := by rw [hx5, hy5]; exact of_decide_eq_false hL
          have hd5 : decide (cf x5 y5 < 0) = false := decide_eq_false hv5
          clear hx5 hy5
          go_wp2_with fail
          go_quiet_grown (first | (go_at_fn g; refine Calls.grown_of (hc5 _ _)))
          have S2 : Aside (SWK enc k w0 blk off d (grow (wr.drewN nq) osq)) := S1.out.grown nq osq
          clear l5a l5b hc5 S1
          generalize grow (wr.drewN nq) osq = w2 at S2 ⊢
          clear nq osq
          go_wp2
          go_roundg (r - (c + 1))
          case measure => omega
          case rel => exact ⟨c + 1, r, by go_num, rfl, by omega, by omega, hr, Nat.le_refl _, ⟨fun _ => by rw [show mid + m - (c + 1) = mid + m - 1 - c from by omega]; exact hL, HQ.out.2⟩, S2⟩
      · obtain rfl : s = r := by omega
        have hltz : ¬ (s : Int) < (s : Int) := by omega
        obtain ⟨e, he⟩ : ∃ e, e = mid + m - s := ⟨_, rfl⟩
        have hez : Hid ((mid : Int) + (m : Int) - (s : Int) = (e : Int)) := by show _ = _; omega
        go_upto_region 39 with fail
        rw [hez.out]
        have CUT : Hid (Cut (ltOf cf) d a s m e b) := by
          show Cut (ltOf cf) d a s m e b
          rw [he]
          exact cut_of (st := a) (r := m) hO HS1.out HS2.out ham hmb HMID.out (if_neg (show ¬ m > mid by omega)).symm (if_neg (show ¬ m > mid by omega)).symm hsts hr HQ.out.1 HQ.out.2
        have HME : Hid (mid = s + (e - m)) := by have := CUT.out.me; show _ = _; omega
        have hme2 : mid + m = s + e := by have := CUT.out.me; omega
        have hmle : m ≤ e := CUT.out.me
        have heb : e ≤ b := CUT.out.eb
        have has : a ≤ s := CUT.out.as
        have hsm : s ≤ m := CUT.out.sm
        clear HQ hb1 hsts hr hkx hsr he
        by_cases k1 : s < m
        · by_cases k2 : m < e
          · by_cases k3 : a < s
            · by_cases k6 : e < b
              · have c1z : (s : Int) < (m : Int) := by omega
                have c1b : decide ((s : Int) < (m : Int)) = true := decide_eq_true (by omega)
                have c2z : (m : Int) < (e : Int) := by omega
                have c2b : decide ((m : Int) < (e : Int)) = true := decide_eq_true (by omega)
                have c3z : (a : Int) < (s : Int) := by omega
                have c3b : decide ((a : Int) < (s : Int)) = true := decide_eq_true (by omega)
                have c4z : (s : Int) < (mid : Int) := by omega
                have c4b : decide ((s : Int) < (mid : Int)) = true := decide_eq_true (by omega)
                have c5z : (mid : Int) < (e : Int) := by omega
                have c5b : decide ((mid : Int) < (e : Int)) = true := decide_eq_true (by omega)
                have c6z : (e : Int) < (b : Int) := by omega
                have c6b : decide ((e : Int) < (b : Int)) = true := decide_eq_true (by omega)
                have hcall := rotate_any k L enc cf g cb blk off cap s m e d0 d w0 wr R hs S1.out (by omega) (by omega) (by omega) (by omega)
                clear S1
                go_wp2_with (go_at_fn 93; refine hcall.mono ?_; rintro ex w6 ⟨rfl, d1, r1, p1, S6r⟩)
                have S6 : Aside (SWK enc k w0 blk off d1 w6) := S6r
                clear S6r
                have ROT : Hid (Rot d d1 s m e ∧ PermIn s e d d1) := ⟨r1, p1⟩
                have hz1 : d1.size = d.size := r1.size
                clear r1 p1
                have HH : Hid _ := CUT.out.halves hO ROT.out.1 HS1.out HS2.out HME.out
                have hcall := ih a s mid d1 _ (by omega) (by omega) S6.out (by omega) (by omega) (by omega) HH.out.1 HH.out.2.1
                rw [show d1.size = d.size from hz1] at hcall
                clear S6
                go_wp2_with (go_at_fn 92; refine hcall.mono ?_; rintro ex w7 ⟨rfl, d2, m2, S7r⟩)
                have S7 : Aside (SWK enc k w0 blk off d2 w7) := S7r
                clear S7r
                have M2 : Hid (Mrg (ltOf cf) ix d1 d2 a mid) := m2
                have hz2 : d2.size = d.size := m2.perm.1.trans hz1
                clear m2
                have hcall := ih mid e b d2 _ (by omega) (by omega) S7.out (by omega) (by omega) (by omega) (SortedIn.perm_out HH.out.2.2.1 M2.out.perm (.inr (Nat.le_refl _))) (SortedIn.perm_out HH.out.2.2.2.1 M2.out.perm (.inr (by omega)))
                rw [show d2.size = d.size from hz2] at hcall
                clear S7
                go_wp2_with (go_at_fn 92; refine hcall.mono ?_; rintro ex w8 ⟨rfl, d3, m3, S8⟩)
                go_end0
                exact ⟨rfl, d3, mrg_of hO CUT.out ROT.out.1 ROT.out.2 HME.out HS1.out HS2.out hb M2.out m3, S8⟩
              · have c1z : (s : Int) < (m : Int) := by omega
                have c1b : decide ((s : Int) < (m : Int)) = true := decide_eq_true (by omega)
                have c2z : (m : Int) < (e : Int) := by omega
                have c2b : decide ((m : Int) < (e : Int)) = true := decide_eq_true (by omega)
                have c3z : (a : Int) < (s : Int) := by omega
                have c3b : decide ((a : Int) < (s : Int)) = true := decide_eq_true (by omega)
                have c4z : (s : Int) < (mid : Int) := by omega
                have c4b : decide ((s : Int) < (mid : Int)) = true := decide_eq_true (by omega)
                have c5z : (mid : Int) < (e : Int) := by omega
                have c5b : decide ((mid : Int) < (e : Int)) = true := decide_eq_true (by omega)
                have c6z : ¬ (e : Int) < (b : Int) := by omega
                have c6b : decide ((e : Int) < (b : Int)) = false := decide_eq_false (by omega)
                have hcall := rotate_any k L enc cf g cb blk off cap s m e d0 d w0 wr R hs S1.out (by omega) (by omega) (by omega) (by omega)
                clear S1
                go_wp2_with (go_at_fn 93; refine hcall.mono ?_; rintro ex w6 ⟨rfl, d1, r1, p1, S6r⟩)
                have S6 : Aside (SWK enc k w0 blk off d1 w6) := S6r
                clear S6r
                have ROT : Hid (Rot d d1 s m e ∧ PermIn s e d d1) := ⟨r1, p1⟩
                have hz1 : d1.size = d.size := r1.size
                clear r1 p1
                have HH : Hid _ := CUT.out.halves hO ROT.out.1 HS1.out HS2.out HME.out
                have hcall := ih a s mid d1 _ (by omega) (by omega) S6.out (by omega) (by omega) (by omega) HH.out.1 HH.out.2.1
                rw [show d1.size = d.size from hz1] at hcall
                clear S6
                go_wp2_with (go_at_fn 92; refine hcall.mono ?_; rintro ex w7 ⟨rfl, d2, m2, S7r⟩)
                have S7 : Aside (SWK enc k w0 blk off d2 w7) := S7r
                clear S7r
                have M2 : Hid (Mrg (ltOf cf) ix d1 d2 a mid) := m2
                have hz2 : d2.size = d.size := m2.perm.1.trans hz1
                clear m2
                go_end0
                exact ⟨rfl, d2, mrg_of hO CUT.out ROT.out.1 ROT.out.2 HME.out HS1.out HS2.out hb M2.out (Mrg.idem (SortedIn.perm_out (show SortedIn (ltOf cf) mid b d1 from by have := HH.out.2.2.1; rwa [show e = b from by omega] at this) M2.out.perm (.inr (Nat.le_refl _)))), S7.out⟩
            · by_cases k6 : e < b
              · have c1z : (s : Int) < (m : Int) := by omega
                have c1b : decide ((s : Int) < (m : Int)) = true := decide_eq_true (by omega)
                have c2z : (m : Int) < (e : Int) := by omega
                have c2b : decide ((m : Int) < (e : Int)) = true := decide_eq_true (by omega)
                have c3z : ¬ (a : Int) < (s : Int) := by omega
                have c3b : decide ((a : Int) < (s : Int)) = false := decide_eq_false (by omega)
                have c4z : (s : Int) < (mid : Int) := by omega
                have c4b : decide ((s : Int) < (mid : Int)) = true := decide_eq_true (by omega)
                have c5z : (mid : Int) < (e : Int) := by omega
                have c5b : decide ((mid : Int) < (e : Int)) = true := decide_eq_true (by omega)
                have c6z : (e : Int) < (b : Int) := by omega
                have c6b : decide ((e : Int) < (b : Int)) = true := decide_eq_true (by omega)
                have hcall := rotate_any k L enc cf g cb blk off cap s m e d0 d w0 wr R hs S1.out (by omega) (by omega) (by omega) (by omega)
                clear S1
                go_wp2_with (go_at_fn 93; refine hcall.mono ?_; rintro ex w6 ⟨rfl, d1, r1, p1, S6r⟩)
                have S6 : Aside (SWK enc k w0 blk off d1 w6) := S6r
                clear S6r
                have ROT : Hid (Rot d d1 s m e ∧ PermIn s e d d1) := ⟨r1, p1⟩
                have hz1 : d1.size = d.size := r1.size
                clear r1 p1
                have HH : Hid _ := CUT.out.halves hO ROT.out.1 HS1.out HS2.out HME.out
                have M2 : Hid (Mrg (ltOf cf) ix d1 d1 a mid) := Mrg.idem (by have := HH.out.2.1; rwa [show s = a from by omega] at this)
                have hz2 : d1.size = d.size := hz1
                have hcall := ih mid e b d1 _ (by omega) (by omega) S6.out (by omega) (by omega) (by omega) (SortedIn.perm_out HH.out.2.2.1 M2.out.perm (.inr (Nat.le_refl _))) (SortedIn.perm_out HH.out.2.2.2.1 M2.out.perm (.inr (by omega)))
                rw [show d1.size = d.size from hz2] at hcall
                clear S6
                go_wp2_with (go_at_fn 92; refine hcall.mono ?_; rintro ex w8 ⟨rfl, d3, m3, S8⟩)
                go_end0
                exact ⟨rfl, d3, mrg_of hO CUT.out ROT.out.1 ROT.out.2 HME.out HS1.out HS2.out hb M2.out m3, S8⟩
              · have c1z : (s : Int) < (m : Int) := by omega
                have c1b : decide ((s : Int) < (m : Int)) = true := decide_eq_true (by omega)
                have c2z : (m : Int) < (e : Int) := by omega
                have c2b : decide ((m : Int) < (e : Int)) = true := decide_eq_true (by omega)
                have c3z : ¬ (a : Int) < (s : Int) := by omega
                have c3b : decide ((a : Int) < (s : Int)) = false := decide_eq_false (by omega)
                have c4z : (s : Int) < (mid : Int) := by omega
                have c4b : decide ((s : Int) < (mid : Int)) = true := decide_eq_true (by omega)
                have c5z : (mid : Int) < (e : Int) := by omega
                have c5b : decide ((mid : Int) < (e : Int)) = true := decide_eq_true (by omega)
                have c6z : ¬ (e : Int) < (b : Int) := by omega
                have c6b : decide ((e : Int) < (b : Int)) = false := decide_eq_false (by omega)
                have hcall := rotate_any k L enc cf g cb blk off cap s m e d0 d w0 wr R hs S1.out (by omega) (by omega) (by omega) (by omega)
                clear S1
                go_wp2_with (go_at_fn 93; refine hcall.mono ?_; rintro ex w6 ⟨rfl, d1, r1, p1, S6r⟩)
                have S6 : Aside (SWK enc k w0 blk off d1 w6) := S6r
                clear S6r
                have ROT : Hid (Rot d d1 s m e ∧ PermIn s e d d1) := ⟨r1, p1⟩
                have hz1 : d1.size = d.size := r1.size
                clear r1 p1
                have HH : Hid _ := CUT.out.halves hO ROT.out.1 HS1.out HS2.out HME.out
                have M2 : Hid (Mrg (ltOf cf) ix d1 d1 a mid) := Mrg.idem (by have := HH.out.2.1; rwa [show s = a from by omega] at this)
                have hz2 : d1.size = d.size := hz1
                go_end0
                exact ⟨rfl, d1, mrg_of hO CUT.out ROT.out.1 ROT.out.2 HME.out HS1.out HS2.out hb M2.out (Mrg.idem (SortedIn.perm_out (show SortedIn (ltOf cf) mid b d1 from by have := HH.out.2.2.1; rwa [show e = b from by omega] at this) M2.out.perm (.inr (Nat.le_refl _)))), S6.out⟩
          · have c1z : (s : Int) < (m : Int) := by omega
            have c1b : decide ((s : Int) < (m : Int)) = true := decide_eq_true (by omega)
            have c2z : ¬ (m : Int) < (e : Int) := by omega
            have c2b : decide ((m : Int) < (e : Int)) = false := decide_eq_false (by omega)
            have c3z : (a : Int) < (s : Int) := by omega
            have c3b : decide ((a : Int) < (s : Int)) = true := decide_eq_true (by omega)
            have c4z : ¬ (s : Int) < (mid : Int) := by omega
            have c4b : decide ((s : Int) < (mid : Int)) = false := decide_eq_false (by omega)
            have c5z : (mid : Int) < (e : Int) := by omega
            have c5b : decide ((mid : Int) < (e : Int)) = true := decide_eq_true (by omega)
            have c6z : (e : Int) < (b : Int) := by omega
            have c6b : decide ((e : Int) < (b : Int)) = true := decide_eq_true (by omega)
            have ROT : Hid (Rot d d s m e ∧ PermIn s e d d) := ⟨(by obtain rfl : e = m := (by omega); exact Rot.idR _ _ _), permIn_refl _ _ _⟩
            have HH : Hid _ := CUT.out.halves hO ROT.out.1 HS1.out HS2.out HME.out
            have M2 : Hid (Mrg (ltOf cf) ix d d a mid) := Mrg.idem (by have := HH.out.1; rwa [show s = mid from by omega] at this)
            have hcall := ih mid e b d _ (by omega) (by omega) S1.out (by omega) (by omega) (by omega) (SortedIn.perm_out HH.out.2.2.1 M2.out.perm (.inr (Nat.le_refl _))) (SortedIn.perm_out HH.out.2.2.2.1 M2.out.perm (.inr (by omega)))

            clear S1
            go_wp2_with (go_at_fn 92; refine hcall.mono ?_; rintro ex w8 ⟨rfl, d3, m3, S8⟩)
            go_end0
            exact ⟨rfl, d3, mrg_of hO CUT.out ROT.out.1 ROT.out.2 HME.out HS1.out HS2.out hb M2.out m3, S8⟩
        · by_cases k2 : m < mid
          · have c1z : ¬ (s : Int) < (m : Int) := by omega
            have c1b : decide ((s : Int) < (m : Int)) = false := decide_eq_false (by omega)
            have c2z : (m : Int) < (e : Int) := by omega
            have c2b : decide ((m : Int) < (e : Int)) = true := decide_eq_true (by omega)
            have c3z : (a : Int) < (s : Int) := by omega
            have c3b : decide ((a : Int) < (s : Int)) = true := decide_eq_true (by omega)
            have c4z : (s : Int) < (mid : Int) := by omega
            have c4b : decide ((s : Int) < (mid : Int)) = true := decide_eq_true (by omega)
            have c5z : ¬ (mid : Int) < (e : Int) := by omega
            have c5b : decide ((mid : Int) < (e : Int)) = false := decide_eq_false (by omega)
            have c6z : (e : Int) < (b : Int) := by omega
            have c6b : decide ((e : Int) < (b : Int)) = true := decide_eq_true (by omega)
            have ROT : Hid (Rot d d s m e ∧ PermIn s e d d) := ⟨(by obtain rfl : s = m := (by omega); exact Rot.idL _ _ _), permIn_refl _ _ _⟩
            have HH : Hid _ := CUT.out.halves hO ROT.out.1 HS1.out HS2.out HME.out
            have hcall := ih a s mid d _ (by omega) (by omega) S1.out (by omega) (by omega) (by omega) HH.out.1 HH.out.2.1

            clear S1
            go_wp2_with (go_at_fn 92; refine hcall.mono ?_; rintro ex w7 ⟨rfl, d2, m2, S7r⟩)
            have S7 : Aside (SWK enc k w0 blk off d2 w7) := S7r
            clear S7r
            have M2 : Hid (Mrg (ltOf cf) ix d d2 a mid) := m2
            have hz2 : d2.size = d.size := m2.perm.1
            clear m2
            go_end0
            exact ⟨rfl, d2, mrg_of hO CUT.out ROT.out.1 ROT.out.2 HME.out HS1.out HS2.out hb M2.out (Mrg.idem (SortedIn.perm_out (show SortedIn (ltOf cf) mid b d from by have := HH.out.2.2.2.1; rwa [show e = mid from by omega] at this) M2.out.perm (.inr (Nat.le_refl _)))), S7.out⟩
          · have c1z : ¬ (s : Int) < (m : Int) := by omega
            have c1b : decide ((s : Int) < (m : Int)) = false := decide_eq_false (by omega)
            have c2z : ¬ (m : Int) < (e : Int) := by omega
            have c2b : decide ((m : Int) < (e : Int)) = false := decide_eq_false (by omega)
            have c3z : (a : Int) < (s : Int) := by omega
            have c3b : decide ((a : Int) < (s : Int)) = true := decide_eq_true (by omega)
            have c4z : ¬ (s : Int) < (mid : Int) := by omega
            have c4b : decide ((s : Int) < (mid : Int)) = false := decide_eq_false (by omega)
            have c5z : ¬ (mid : Int) < (e : Int) := by omega
            have c5b : decide ((mid : Int) < (e : Int)) = false := decide_eq_false (by omega)
            have c6z : (e : Int) < (b : Int) := by omega
            have c6b : decide ((e : Int) < (b : Int)) = true := decide_eq_true (by omega)
            have ROT : Hid (Rot d d s m e ∧ PermIn s e d d) := ⟨(by obtain rfl : s = m := (by omega); exact Rot.idL _ _ _), permIn_refl _ _ _⟩
            have HH : Hid _ := CUT.out.halves hO ROT.out.1 HS1.out HS2.out HME.out
            have M2 : Hid (Mrg (ltOf cf) ix d d a mid) := Mrg.idem (by have := HH.out.1; rwa [show s = mid from by omega] at this)
            go_wp2
            go_end0
            exact ⟨rfl, d, mrg_of hO CUT.out ROT.out.1 ROT.out.2 HME.out HS1.out HS2.out hb M2.out (Mrg.idem (SortedIn.perm_out (show SortedIn (ltOf cf) mid b d from by have := HH.out.2.2.2.1; rwa [show e = mid from by omega] at this) M2.out.perm (.inr (Nat.le_refl _)))), S1.out⟩

end Go.Proofs.Ytpohmoakilioiaa
