/- The library's stable sort: symMerge where one part is one element. Conditions: the row is there. -/
import Derived.Test.YtpohmoakilioiaaStR
namespace Go.Proofs.Ytpohmoakilioiaa
set_option linter.unusedSimpArgs false
set_option linter.unusedVariables false
set_option maxRecDepth 100000
open Go.Shelf Go.RowKit Go.Lib Go.Sort
variable {P : Program} {α : Type} [Inhabited α]

section
omit [Inhabited α]
variable {lt : α → α → Bool}
theorem lt_of_le_lt (hO : SWO lt) {x y z : α} (h : lt y x = false) (k : lt y z = true) : lt x z = true := by
  cases c : lt x z with
  | true => rfl
  | false =>
    have := hO.ntrans _ _ _ h c
    rw [k] at this
    cases this
theorem lt_of_lt_le (hO : SWO lt) {x y z : α} (h : lt x y = true) (k : lt z y = false) : lt x z = true := by
  cases c : lt x z with
  | true => rfl
  | false =>
    have := hO.ntrans _ _ _ c k
    rw [h] at this
    cases this
end

set_option maxHeartbeats 8000000 in
set_option maxRecDepth 1000000 in
theorem symOneL (k : Nat) (L : LyT P k) (enc : α → List Value) (cf : α → α → Int) (g : Nat) (cb : Array Value) (blk off cap a m b : Nat) (d0 d : Array α) (w0 w : World)
    (eg : ∀ args w, (callFunc g args).run P w = .ok (.enter g args) w) (hcmp : CmpLays P g cb enc k cf blk off d0.size w0) (hO : SWO (ltOf cf)) (ix : α → Nat)
    (R : RowK enc k w0 blk off d0) (hs : d0.size = d.size) (S : SWK enc k w0 blk off d w) (ham : a < m) (hmb : m < b) (hb : b ≤ d.size) (h1 : SortedIn (ltOf cf) a m d) (h2 : SortedIn (ltOf cf) m b d) (hsz : d.size < 1099511627776) (hone : m = a + 1) :
    Calls P 92 #[.slice (some ⟨blk, off, none⟩) d.size cap, .int .i64 a, .int .i64 m, .int .i64 b, .func (.func g) #[] cb] w fun e w' => e = .returned (.tuple #[]) ∧ ∃ d', Mrg (ltOf cf) ix d d' a b ∧ SWK enc k w0 blk off d' w' := by
  have mixed := L.mixed
  have tV := L.tV; have aV := L.aV; have zV := L.zV; have vV := L.vV
  have tI := L.tI; have aI := L.aI; have zI := L.zI; have vI := L.vI
  have tB := L.tB; have aB := L.aB; have zB := L.zB; have vB := L.vB
  have tS := L.tS; have aS := L.aS; have zS := L.zS; have vS := L.vS
  have tF := L.tF; have aF := L.aF; have zF := L.zF; have vF := L.vF
  have tU := L.tU; have aU := L.aU; have zU := L.zU; have vU := L.vU
  have aE := L.aE; have zE := L.zE
  have FG := L.symMerge
  have HC : Aside _ := hcmp
  have S0 : Aside (SWK enc k w0 blk off d w) := S
  have HS1 : Hid _ := h1
  have HS2 : Hid _ := h2
  clear S hcmp h1 h2
  -- one on the left
  have h1z : (m : Int) - (a : Int) = 1 := by omega
  clear hone
  go_enter FG, Try.ntmps92
  go_wp2
  go_loopg [10, 11] (b - m) (fun kx s10 s11 wr => ∃ (i j : Nat), s10 = .int .i64 i ∧ s11 = .int .i64 j ∧ m ≤ i ∧ i ≤ j ∧ j ≤ b ∧ j - i ≤ kx ∧ Hid ((∀ x, m ≤ x → x < i → ltOf cf d[x]! d[a]! = true) ∧ ∀ x, j ≤ x → x < b → ltOf cf d[x]! d[a]! = false) ∧ Aside (SWK enc k w0 blk off d wr))
  case atStart => exact ⟨m, b, rfl, rfl, Nat.le_refl _, by omega, Nat.le_refl _, Nat.le_refl _, ⟨fun x _ _ => by omega, fun x _ _ => by omega⟩, S0⟩
  case round =>
    clear S0
    obtain ⟨i, j, rfl, rfl, hmi, hij, hjb, hkx, HQ, S1⟩ := hrel
    by_cases hlt : i < j
    · have hltz : (i : Int) < (j : Int) := by omega
      cases hL : ltOf cf d[(i + j) / 2]! d[a]! with
      | true =>
        go_wp2_with fail
        have ea1 : (((i : Int) + (j : Int)) / 2).toNat = (i + j) / 2 := by omega
        have pa1 : (0 : Int) ≤ ((i : Int) + (j : Int)) / 2 := by omega
        have ba1 : ((i : Int) + (j : Int)) / 2 < (d.size : Int) := by omega
        have ra1 : IntKind.i64.wrap (((i : Int) + (j : Int)) / 2) = ((i : Int) + (j : Int)) / 2 := by rw [IntKind.wrap_i64]; omega
        have ec1 : ((a : Int)).toNat = a := by omega
        have pc1 : (0 : Int) ≤ (a : Int) := by omega
        have bc1 : (a : Int) < (d.size : Int) := by omega
        have rc1 : IntKind.i64.wrap ((a : Int)) = (a : Int) := by rw [IntKind.wrap_i64]; omega
        obtain ⟨x1, hx1⟩ : ∃ x, x = d[(i + j) / 2]! := ⟨_, rfl⟩
        obtain ⟨y1, hy1⟩ : ∃ x, x = d[a]! := ⟨_, rfl⟩
        have l1a := S1.out.ld R (by omega) P ((i + j) / 2) (by omega)
        have l1b := S1.out.ld R (by omega) P (a) (by omega)
        rw [← hx1] at l1a
        rw [← hy1] at l1b
        have hc1 := S1.out.cmp HC.out (by omega) x1 y1
        have hv1 : cf x1 y1 < 0 := by rw [hx1, hy1]; exact of_decide_eq_true hL
        have hd1 : decide (cf x1 y1 < 0) = true := decide_eq_true hv1
        clear hx1 hy1
        go_wp2_with fail
        go_quiet_grown (first | (go_at_fn g; refine Calls.grown_of (hc1 _ _)))
        have S2 : Aside (SWK enc k w0 blk off d (grow (wr.drewN nq) osq)) := S1.out.grown nq osq
        clear l1a l1b hc1 S1
        generalize grow (wr.drewN nq) osq = w2 at S2 ⊢
        clear nq osq
        go_wp2
        go_roundg (j - ((i + j) / 2 + 1))
        case measure => omega
        case rel => exact ⟨(i + j) / 2 + 1, j, by go_num, rfl, by omega, by omega, hjb, Nat.le_refl _, ⟨fun x h1 h2 => lt_of_le_lt hO (SortedIn.le hO HS2.out h1 (show x ≤ (i + j) / 2 by omega) (by omega)) hL, HQ.out.2⟩, S2⟩
      | false =>
        go_wp2_with fail
        have ea1 : (((i : Int) + (j : Int)) / 2).toNat = (i + j) / 2 := by omega
        have pa1 : (0 : Int) ≤ ((i : Int) + (j : Int)) / 2 := by omega
        have ba1 : ((i : Int) + (j : Int)) / 2 < (d.size : Int) := by omega
        have ra1 : IntKind.i64.wrap (((i : Int) + (j : Int)) / 2) = ((i : Int) + (j : Int)) / 2 := by rw [IntKind.wrap_i64]; omega
        have ec1 : ((a : Int)).toNat = a := by omega
        have pc1 : (0 : Int) ≤ (a : Int) := by omega
        have bc1 : (a : Int) < (d.size : Int) := by omega
        have rc1 : IntKind.i64.wrap ((a : Int)) = (a : Int) := by rw [IntKind.wrap_i64]; omega
        obtain ⟨x1, hx1⟩ : ∃ x, x = d[(i + j) / 2]! := ⟨_, rfl⟩
        obtain ⟨y1, hy1⟩ : ∃ x, x = d[a]! := ⟨_, rfl⟩
        have l1a := S1.out.ld R (by omega) P ((i + j) / 2) (by omega)
        have l1b := S1.out.ld R (by omega) P (a) (by omega)
        rw [← hx1] at l1a
        rw [← hy1] at l1b
        have hc1 := S1.out.cmp HC.out (by omega) x1 y1
        have hv1 : ¬ cf x1 y1 < 0 := by rw [hx1, hy1]; exact of_decide_eq_false hL
        have hd1 : decide (cf x1 y1 < 0) = false := decide_eq_false hv1
        clear hx1 hy1
        go_wp2_with fail
        go_quiet_grown (first | (go_at_fn g; refine Calls.grown_of (hc1 _ _)))
        have S2 : Aside (SWK enc k w0 blk off d (grow (wr.drewN nq) osq)) := S1.out.grown nq osq
        clear l1a l1b hc1 S1
        generalize grow (wr.drewN nq) osq = w2 at S2 ⊢
        clear nq osq
        go_wp2
        go_roundg ((i + j) / 2 - i)
        case measure => omega
        case rel => exact ⟨i, (i + j) / 2, rfl, by go_num, hmi, by omega, by omega, Nat.le_refl _, ⟨HQ.out.1, fun x h1 h2 => hO.ntrans _ _ _ (SortedIn.le hO HS2.out (show m ≤ (i + j) / 2 by omega) h1 h2) hL⟩, S2⟩
    · obtain rfl : i = j := by omega
      have hltz : ¬ (i : Int) < (i : Int) := by omega
      obtain ⟨wo, hwo⟩ : ∃ wo, wo = wr := ⟨_, rfl⟩
      clear hwo
      go_wp2
      go_loopg [13] (i - a) (fun kx s13 wr => ∃ (q : Nat) (dk : Array α), s13 = .int .i64 q ∧ a ≤ q ∧ q + 1 ≤ i ∧ i - q ≤ kx ∧ dk.size = d.size ∧ Hid (Rot d dk a (a + 1) (q + 1) ∧ PermIn a b d dk) ∧ Aside (SWK enc k w0 blk off dk wr))
      case atStart => exact ⟨a, d, rfl, Nat.le_refl _, by omega, Nat.le_refl _, rfl, ⟨Rot.idR d a (a + 1), permIn_refl _ _ _⟩, S1⟩
      case round =>
        clear S1
        obtain ⟨q, dk, rfl, haq, hqi, hkx, hds, HR, S1⟩ := hrel
        by_cases hlt : q + 1 < i
        · have hltz : (q : Int) < (i : Int) - 1 := by omega
          go_wp2_with fail
          have ea2 : ((q : Int)).toNat = q := by omega
          have pa2 : (0 : Int) ≤ (q : Int) := by omega
          have ba2 : (q : Int) < (d.size : Int) := by omega
          have ra2 : IntKind.i64.wrap ((q : Int)) = (q : Int) := by rw [IntKind.wrap_i64]; omega
          have ec2 : ((q : Int) + 1).toNat = q + 1 := by omega
          have pc2 : (0 : Int) ≤ (q : Int) + 1 := by omega
          have bc2 : (q : Int) + 1 < (d.size : Int) := by omega
          have rc2 : IntKind.i64.wrap ((q : Int) + 1) = (q : Int) + 1 := by rw [IntKind.wrap_i64]; omega
          have S2 : Aside (SWK enc k w0 blk off (swp dk (q) (q + 1)) ((wr.drew.setCells blk (off + (q) * k) (enc dk[q + 1]!)).setCells blk (off + (q + 1) * k) (enc dk[q]!))) := S1.out.swapped R (q) (q + 1) (by omega) (by omega)
          have l2a := S1.out.ld1 R (by omega) P (q) (by omega)
          have l2b := S1.out.ld1 R (by omega) P (q + 1) (by omega)
          have s2a := S1.out.st1 R (by omega) P (q) (by omega) dk[q + 1]!
          have s2b := S1.out.st2 R (by omega) P (q) (q + 1) (by omega) (by omega) dk[q + 1]! dk[q]!
          have n2a : (enc dk[q]!).length = k := R.hk _
          have n2b : (enc dk[q + 1]!).length = k := R.hk _
          generalize enc dk[q]! = cI2 at S2 l2a s2b n2a
          generalize enc dk[q + 1]! = cJ2 at S2 l2b s2a s2b n2b
          clear S1
          go_wp2_with fail
          go_big_region_o
          clear l2a l2b s2a s2b
          generalize (wr.drew.setCells blk (off + (q) * k) cJ2).setCells blk (off + (q + 1) * k) cI2 = w2 at S2 ⊢
          go_wp2
          go_roundg (i - (q + 1))
          case measure => omega
          case rel => exact ⟨q + 1, swp dk q (q + 1), by go_num, by omega, by omega, Nat.le_refl _, by rw [size_swp]; exact hds, ⟨HR.out.1.up haq (by omega), permIn_trans _ _ _ _ _ HR.out.2 (swp_permIn _ _ _ _ _ haq (by omega) (by omega) (by omega) (by omega))⟩, S2⟩
        · obtain rfl : q + 1 = i := by omega
          have hltz : ¬ (q : Int) < ((q + 1 : Nat) : Int) - 1 := by omega
          go_wp2
          (try simp only [Exit.inBlock, Exit.then]); refine bodyPost_ret (results_none rfl _ _ _) rfl ?_
          refine ⟨rfl, dk, ?_, S1.out⟩
          obtain rfl : m = a + 1 := by omega
          refine Cut.one (s := a) (m := a + 1) (e := q + 1) hO ⟨Nat.le_refl _, by omega, by omega, by omega, fun x y h1 h2 h3 h4 => ?_, fun x y h1 h2 h3 h4 => by omega⟩ HR.out.1 HR.out.2 HS1.out HS2.out hb (fun x y h1 h2 h3 h4 => by omega) (fun x y h1 h2 h3 h4 => ?_)
          · obtain rfl : x = a := by omega
            exact HQ.out.1 y h3 h4
          · obtain rfl : x = a := by omega
            exact HQ.out.2 y h3 h4

set_option maxHeartbeats 8000000 in
set_option maxRecDepth 1000000 in
theorem symOneR (k : Nat) (L : LyT P k) (enc : α → List Value) (cf : α → α → Int) (g : Nat) (cb : Array Value) (blk off cap a m b : Nat) (d0 d : Array α) (w0 w : World)
    (eg : ∀ args w, (callFunc g args).run P w = .ok (.enter g args) w) (hcmp : CmpLays P g cb enc k cf blk off d0.size w0) (hO : SWO (ltOf cf)) (ix : α → Nat)
    (R : RowK enc k w0 blk off d0) (hs : d0.size = d.size) (S : SWK enc k w0 blk off d w) (ham : a < m) (hmb : m < b) (hb : b ≤ d.size) (h1 : SortedIn (ltOf cf) a m d) (h2 : SortedIn (ltOf cf) m b d) (hsz : d.size < 1099511627776) (hne : m ≠ a + 1) (hone : b = m + 1) :
    Calls P 92 #[.slice (some ⟨blk, off, none⟩) d.size cap, .int .i64 a, .int .i64 m, .int .i64 b, .func (.func g) #[] cb] w fun e w' => e = .returned (.tuple #[]) ∧ ∃ d', Mrg (ltOf cf) ix d d' a b ∧ SWK enc k w0 blk off d' w' := by
  have mixed := L.mixed
  have tV := L.tV; have aV := L.aV; have zV := L.zV; have vV := L.vV
  have tI := L.tI; have aI := L.aI; have zI := L.zI; have vI := L.vI
  have tB := L.tB; have aB := L.aB; have zB := L.zB; have vB := L.vB
  have tS := L.tS; have aS := L.aS; have zS := L.zS; have vS := L.vS
  have tF := L.tF; have aF := L.aF; have zF := L.zF; have vF := L.vF
  have tU := L.tU; have aU := L.aU; have zU := L.zU; have vU := L.vU
  have aE := L.aE; have zE := L.zE
  have FG := L.symMerge
  have HC : Aside _ := hcmp
  have S0 : Aside (SWK enc k w0 blk off d w) := S
  have HS1 : Hid _ := h1
  have HS2 : Hid _ := h2
  clear S hcmp h1 h2
  -- one on the right
  have h1z : ¬ ((m : Int) - (a : Int) = 1) := by omega
  have h1b : ((m : Int) - (a : Int) == 1) = false := by simpa using h1z
  have h2z : (b : Int) - (m : Int) = 1 := by omega
  clear hone hne
  go_enter FG, Try.ntmps92
  go_wp2
  go_loopg [14, 15] (m - a) (fun kx s10 s11 wr => ∃ (i j : Nat), s10 = .int .i64 i ∧ s11 = .int .i64 j ∧ a ≤ i ∧ i ≤ j ∧ j ≤ m ∧ j - i ≤ kx ∧ Hid ((∀ x, a ≤ x → x < i → ltOf cf d[m]! d[x]! = false) ∧ ∀ x, j ≤ x → x < m → ltOf cf d[m]! d[x]! = true) ∧ Aside (SWK enc k w0 blk off d wr))
  case atStart => exact ⟨a, m, rfl, rfl, Nat.le_refl _, by omega, Nat.le_refl _, Nat.le_refl _, ⟨fun x _ _ => by omega, fun x _ _ => by omega⟩, S0⟩
  case round =>
    clear S0
    obtain ⟨i, j, rfl, rfl, hmi, hij, hjb, hkx, HQ, S1⟩ := hrel
    by_cases hlt : i < j
    · have hltz : (i : Int) < (j : Int) := by omega
      cases hL : ltOf cf d[m]! d[(i + j) / 2]! with
      | true =>
        go_wp2_with fail
        have ea3 : ((m : Int)).toNat = m := by omega
        have pa3 : (0 : Int) ≤ (m : Int) := by omega
        have ba3 : (m : Int) < (d.size : Int) := by omega
        have ra3 : IntKind.i64.wrap ((m : Int)) = (m : Int) := by rw [IntKind.wrap_i64]; omega
        have ec3 : (((i : Int) + (j : Int)) / 2).toNat = (i + j) / 2 := by omega
        have pc3 : (0 : Int) ≤ ((i : Int) + (j : Int)) / 2 := by omega
        have bc3 : ((i : Int) + (j : Int)) / 2 < (d.size : Int) := by omega
        have rc3 : IntKind.i64.wrap (((i : Int) + (j : Int)) / 2) = ((i : Int) + (j : Int)) / 2 := by rw [IntKind.wrap_i64]; omega
        obtain ⟨x3, hx3⟩ : ∃ x, x = d[m]! := ⟨_, rfl⟩
        obtain ⟨y3, hy3⟩ : ∃ x, x = d[(i + j) / 2]! := ⟨_, rfl⟩
        have l3a := S1.out.ld R (by omega) P (m) (by omega)
        have l3b := S1.out.ld R (by omega) P ((i + j) / 2) (by omega)
        rw [← hx3] at l3a
        rw [← hy3] at l3b
        have hc3 := S1.out.cmp HC.out (by omega) x3 y3
        have hv3 : cf x3 y3 < 0 := by rw [hx3, hy3]; exact of_decide_eq_true hL
        have hd3 : decide (cf x3 y3 < 0) = true := decide_eq_true hv3
        clear hx3 hy3
        go_wp2_with fail
        go_quiet_grown (first | (go_at_fn g; refine Calls.grown_of (hc3 _ _)))
        have S2 : Aside (SWK enc k w0 blk off d (grow (wr.drewN nq) osq)) := S1.out.grown nq osq
        clear l3a l3b hc3 S1
        generalize grow (wr.drewN nq) osq = w2 at S2 ⊢
        clear nq osq
        go_wp2
        go_roundg ((i + j) / 2 - i)
        case measure => omega
        case rel => exact ⟨i, (i + j) / 2, rfl, by go_num, hmi, by omega, by omega, Nat.le_refl _, ⟨HQ.out.1, fun x h1 h2 => lt_of_lt_le hO hL (SortedIn.le hO HS1.out (show a ≤ (i + j) / 2 by omega) h1 h2)⟩, S2⟩
      | false =>
        go_wp2_with fail
        have ea3 : ((m : Int)).toNat = m := by omega
        have pa3 : (0 : Int) ≤ (m : Int) := by omega
        have ba3 : (m : Int) < (d.size : Int) := by omega
        have ra3 : IntKind.i64.wrap ((m : Int)) = (m : Int) := by rw [IntKind.wrap_i64]; omega
        have ec3 : (((i : Int) + (j : Int)) / 2).toNat = (i + j) / 2 := by omega
        have pc3 : (0 : Int) ≤ ((i : Int) + (j : Int)) / 2 := by omega
        have bc3 : ((i : Int) + (j : Int)) / 2 < (d.size : Int) := by omega
        have rc3 : IntKind.i64.wrap (((i : Int) + (j : Int)) / 2) = ((i : Int) + (j : Int)) / 2 := by rw [IntKind.wrap_i64]; omega
        obtain ⟨x3, hx3⟩ : ∃ x, x = d[m]! := ⟨_, rfl⟩
        obtain ⟨y3, hy3⟩ : ∃ x, x = d[(i + j) / 2]! := ⟨_, rfl⟩
        have l3a := S1.out.ld R (by omega) P (m) (by omega)
        have l3b := S1.out.ld R (by omega) P ((i + j) / 2) (by omega)
        rw [← hx3] at l3a
        rw [← hy3] at l3b
        have hc3 := S1.out.cmp HC.out (by omega) x3 y3
        have hv3 : ¬ cf x3 y3 < 0 := by rw [hx3, hy3]; exact of_decide_eq_false hL
        have hd3 : decide (cf x3 y3 < 0) = false := decide_eq_false hv3
        clear hx3 hy3
        go_wp2_with fail
        go_quiet_grown (first | (go_at_fn g; refine Calls.grown_of (hc3 _ _)))
        have S2 : Aside (SWK enc k w0 blk off d (grow (wr.drewN nq) osq)) := S1.out.grown nq osq
        clear l3a l3b hc3 S1
        generalize grow (wr.drewN nq) osq = w2 at S2 ⊢
        clear nq osq
        go_wp2
        go_roundg (j - ((i + j) / 2 + 1))
        case measure => omega
        case rel => exact ⟨(i + j) / 2 + 1, j, by go_num, rfl, by omega, by omega, hjb, Nat.le_refl _, ⟨fun x h1 h2 => hO.ntrans _ _ _ hL (SortedIn.le hO HS1.out h1 (show x ≤ (i + j) / 2 by omega) (by omega)), HQ.out.2⟩, S2⟩
    · obtain rfl : i = j := by omega
      have hltz : ¬ (i : Int) < (i : Int) := by omega
      go_wp2
      go_loopg [17] (m - i) (fun kx s13 wr => ∃ (q : Nat) (dk : Array α), s13 = .int .i64 q ∧ i ≤ q ∧ q ≤ m ∧ q - i ≤ kx ∧ dk.size = d.size ∧ Hid (Rot d dk q m (m + 1) ∧ PermIn a b d dk) ∧ Aside (SWK enc k w0 blk off dk wr))
      case atStart => exact ⟨m, d, rfl, by omega, Nat.le_refl _, Nat.le_refl _, rfl, ⟨Rot.idL d m (m + 1), permIn_refl _ _ _⟩, S1⟩
      case round =>
        clear S1
        obtain ⟨q, dk, rfl, haq, hqi, hkx, hds, HR, S1⟩ := hrel
        by_cases hlt : i < q
        · obtain ⟨q, rfl⟩ : ∃ q', q = q' + 1 := ⟨q - 1, by omega⟩
          have hltz : (i : Int) < (q : Int) + 1 := by omega
          go_wp2_with fail
          have ea4 : ((q : Int) + 1).toNat = q + 1 := by omega
          have pa4 : (0 : Int) ≤ (q : Int) + 1 := by omega
          have ba4 : (q : Int) + 1 < (d.size : Int) := by omega
          have ra4 : IntKind.i64.wrap ((q : Int) + 1) = (q : Int) + 1 := by rw [IntKind.wrap_i64]; omega
          have ec4 : ((q : Int)).toNat = q := by omega
          have pc4 : (0 : Int) ≤ (q : Int) := by omega
          have bc4 : (q : Int) < (d.size : Int) := by omega
          have rc4 : IntKind.i64.wrap ((q : Int)) = (q : Int) := by rw [IntKind.wrap_i64]; omega
          have S2 : Aside (SWK enc k w0 blk off (swp dk (q + 1) (q)) ((wr.drew.setCells blk (off + (q + 1) * k) (enc dk[q]!)).setCells blk (off + (q) * k) (enc dk[q + 1]!))) := S1.out.swapped R (q + 1) (q) (by omega) (by omega)
          have l4a := S1.out.ld1 R (by omega) P (q + 1) (by omega)
          have l4b := S1.out.ld1 R (by omega) P (q) (by omega)
          have s4a := S1.out.st1 R (by omega) P (q + 1) (by omega) dk[q]!
          have s4b := S1.out.st2 R (by omega) P (q + 1) (q) (by omega) (by omega) dk[q]! dk[q + 1]!
          have n4a : (enc dk[q + 1]!).length = k := R.hk _
          have n4b : (enc dk[q]!).length = k := R.hk _
          generalize enc dk[q + 1]! = cI4 at S2 l4a s4b n4a
          generalize enc dk[q]! = cJ4 at S2 l4b s4a s4b n4b
          clear S1
          go_wp2_with fail
          go_big_region_o
          clear l4a l4b s4a s4b
          generalize (wr.drew.setCells blk (off + (q + 1) * k) cJ4).setCells blk (off + (q) * k) cI4 = w2 at S2 ⊢
          go_wp2
          go_roundg (q - i)
          case measure => omega
          case rel => exact ⟨q, swp dk (q + 1) q, by go_num, by omega, by omega, Nat.le_refl _, by rw [size_swp]; exact hds, ⟨HR.out.1.down hqi (by omega), permIn_trans _ _ _ _ _ HR.out.2 (swp_permIn _ _ _ _ _ (by omega) (by omega) (by omega) (by omega) (by omega))⟩, S2⟩
        · obtain rfl : i = q := by omega
          go_wp2
          (try simp only [Exit.inBlock, Exit.then]); refine bodyPost_ret (results_none rfl _ _ _) rfl ?_
          refine ⟨rfl, dk, ?_, S1.out⟩
          obtain rfl : b = m + 1 := by omega
          refine Cut.one (s := i) (m := m) (e := m + 1) hO ⟨hmi, by omega, by omega, by omega, fun x y h1 h2 h3 h4 => ?_, fun x y h1 h2 h3 h4 => by omega⟩ HR.out.1 HR.out.2 HS1.out HS2.out hb (fun x y h1 h2 h3 h4 => ?_) (fun x y h1 h2 h3 h4 => by omega)
          · obtain rfl : y = m := by omega
            exact HQ.out.2 x h1 h2
          · obtain rfl : y = m := by omega
            exact HQ.out.1 x h1 h2

end Go.Proofs.Ytpohmoakilioiaa
