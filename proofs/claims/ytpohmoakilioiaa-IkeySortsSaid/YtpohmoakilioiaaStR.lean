/- The library's stable sort: exchange of two ranges, rotation: at elements of k cells, in any program that holds the two bodies. Conditions: the row is there. -/
import Derived.Test.YtpohmoakilioiaaStM
import Derived.Test.YtpohmoakilioiaaRows
import Derived.Shelf.SlSortCmp.KitK
import Derived.Deep.LoopGhost
namespace Go.Proofs.Ytpohmoakilioiaa
set_option linter.unusedSimpArgs false
set_option linter.unusedVariables false
set_option maxRecDepth 100000
open Go.Shelf Go.RowKit Go.Lib Go.Sort

/-- What of a program the walks of the stable sort use. -/
structure LyT (P : Program) (k : Nat) : Prop where
  mixed : P.follows .mixedOrders = true
  swapRange : P.funcs[94]? = some Try.f94
  rotate : P.funcs[93]? = some Try.f93
  symMerge : P.funcs[92]? = some Try.f92
  stable : P.funcs[90]? = some Try.f90
  tV : P.underlying 0 = some (TypeDesc.tuple #[])
  aV : ∀ w, (isAgg 0).run P w = .ok false w
  zV : ∀ w, (Go.sizeOf 0).run P w = .ok 1 w
  vV : ∀ w, (zeroValue 0).run P w = .ok (Value.tuple #[]) w
  tI : P.underlying 3 = some (TypeDesc.int IntKind.i64)
  aI : ∀ w, (isAgg 3).run P w = .ok false w
  zI : ∀ w, (Go.sizeOf 3).run P w = .ok 1 w
  vI : ∀ w, (zeroValue 3).run P w = .ok (Value.int IntKind.i64 0) w
  tB : P.underlying 4 = some (TypeDesc.bool)
  aB : ∀ w, (isAgg 4).run P w = .ok false w
  zB : ∀ w, (Go.sizeOf 4).run P w = .ok 1 w
  vB : ∀ w, (zeroValue 4).run P w = .ok (Value.bool false) w
  tS : P.underlying 42 = some (TypeDesc.slice 25)
  aS : ∀ w, (isAgg 42).run P w = .ok false w
  zS : ∀ w, (Go.sizeOf 42).run P w = .ok 1 w
  vS : ∀ w, (zeroValue 42).run P w = .ok (Value.slice none 0 0) w
  tF : P.underlying 29 = some (TypeDesc.func #[25, 25] #[3] false)
  aF : ∀ w, (isAgg 29).run P w = .ok false w
  zF : ∀ w, (Go.sizeOf 29).run P w = .ok 1 w
  vF : ∀ w, (zeroValue 29).run P w = .ok (Value.nilFunc) w
  tU : P.underlying 113 = some (TypeDesc.int IntKind.u64)
  aU : ∀ w, (isAgg 113).run P w = .ok false w
  zU : ∀ w, (Go.sizeOf 113).run P w = .ok 1 w
  vU : ∀ w, (zeroValue 113).run P w = .ok (Value.int IntKind.u64 0) w
  aE : ∀ w, (isAgg 25).run P w = .ok true w
  zE : ∀ w, (Go.sizeOf 25).run P w = .ok k w

theorem lyT : LyT Try.prog 4 where
  mixed := by kernel_rfl
  swapRange := Try.func94
  rotate := Try.func93
  symMerge := Try.func92
  stable := Try.func90
  tV := Try.underlying0
  aV := Try.isAgg0
  zV := Try.sizeOf0
  vV := Try.zeroValue0
  tI := Try.underlying3
  aI := Try.isAgg3
  zI := Try.sizeOf3
  vI := Try.zeroValue3
  tB := Try.underlying4
  aB := Try.isAgg4
  zB := Try.sizeOf4
  vB := Try.zeroValue4
  tS := Try.underlying42
  aS := Try.isAgg42
  zS := Try.sizeOf42
  vS := Try.zeroValue42
  tF := Try.underlying29
  aF := Try.isAgg29
  zF := Try.sizeOf29
  vF := Try.zeroValue29
  tU := Try.underlying113
  aU := Try.isAgg113
  zU := Try.sizeOf113
  vU := Try.zeroValue113
  aE := Try.isAgg25
  zE := Try.sizeOf25

variable {P : Program} {α : Type} [Inhabited α]

set_option maxHeartbeats 4000000 in
set_option maxRecDepth 1000000 in
theorem swapRange_any (k : Nat) (L : LyT P k) (enc : α → List Value) (cf : α → α → Int) (g : Nat) (cb : Array Value) (blk off cap a b n : Nat) (d0 d : Array α) (w0 w : World)
    (R : RowK enc k w0 blk off d0) (hs : d0.size = d.size) (S : SWK enc k w0 blk off d w) (hab : a + n ≤ b) (hb : b + n ≤ d.size) (hsz : d.size < 1099511627776) :
    Calls P 94 #[.slice (some ⟨blk, off, none⟩) d.size cap, .int .i64 a, .int .i64 b, .int .i64 n, .func (.func g) #[] cb] w fun e w' => e = .returned (.tuple #[]) ∧ ∃ d', SwR d d' a b n ∧ SWK enc k w0 blk off d' w' := by
  have mixed := L.mixed
  have tV := L.tV; have aV := L.aV; have zV := L.zV; have vV := L.vV
  have tI := L.tI; have aI := L.aI; have zI := L.zI; have vI := L.vI
  have tB := L.tB; have aB := L.aB; have zB := L.zB; have vB := L.vB
  have tS := L.tS; have aS := L.aS; have zS := L.zS; have vS := L.vS
  have tF := L.tF; have aF := L.aF; have zF := L.zF; have vF := L.vF
  have tU := L.tU; have aU := L.aU; have zU := L.zU; have vU := L.vU
  have aE := L.aE; have zE := L.zE
  have FG := L.swapRange
  have S0 : Aside (SWK enc k w0 blk off d w) := S
  clear S
  go_enter FG, Try.ntmps94
  go_wp2
  go_loopg [10] n (fun kx s10 wr => ∃ (i : Nat) (dk : Array α), s10 = .int .i64 i ∧ i ≤ n ∧ n - i ≤ kx ∧ Hid (SwR d dk a b i) ∧ Aside (SWK enc k w0 blk off dk wr))
  case atStart => exact ⟨0, d, rfl, Nat.zero_le _, Nat.le_refl _, SwR.nil d a b, S0⟩
  case round =>
    clear S0
    obtain ⟨i, dk, rfl, hin, hkx, HQ, S1⟩ := hrel
    have hds : dk.size = d.size := HQ.out.size
    by_cases hlt : i < n
    · have hltz : (i : Int) < (n : Int) := by omega
      go_wp2_with fail
      have ea1 : ((a : Int) + (i : Int)).toNat = a + i := by omega
      have pa1 : (0 : Int) ≤ (a : Int) + (i : Int) := by omega
      have ba1 : (a : Int) + (i : Int) < (d.size : Int) := by omega
      have ra1 : IntKind.i64.wrap ((a : Int) + (i : Int)) = (a : Int) + (i : Int) := by rw [IntKind.wrap_i64]; omega
      have ec1 : ((b : Int) + (i : Int)).toNat = b + i := by omega
      have pc1 : (0 : Int) ≤ (b : Int) + (i : Int) := by omega
      have bc1 : (b : Int) + (i : Int) < (d.size : Int) := by omega
      have rc1 : IntKind.i64.wrap ((b : Int) + (i : Int)) = (b : Int) + (i : Int) := by rw [IntKind.wrap_i64]; omega
      have S2 : Aside (SWK enc k w0 blk off (swp dk (a + i) (b + i)) ((wr.drew.setCells blk (off + (a + i) * k) (enc dk[b + i]!)).setCells blk (off + (b + i) * k) (enc dk[a + i]!))) := S1.out.swapped R (a + i) (b + i) (by omega) (by omega)
      have l1a := S1.out.ld1 R (by omega) P (a + i) (by omega)
      have l1b := S1.out.ld1 R (by omega) P (b + i) (by omega)
      have s1a := S1.out.st1 R (by omega) P (a + i) (by omega) dk[b + i]!
      have s1b := S1.out.st2 R (by omega) P (a + i) (b + i) (by omega) (by omega) dk[b + i]! dk[a + i]!
      have n1a : (enc dk[a + i]!).length = k := R.hk _
      have n1b : (enc dk[b + i]!).length = k := R.hk _
      generalize enc dk[a + i]! = cI1 at S2 l1a s1b n1a
      generalize enc dk[b + i]! = cJ1 at S2 l1b s1a s1b n1b
      clear S1
      go_wp2_with fail
      go_big_region_o
      clear l1a l1b s1a s1b
      generalize (wr.drew.setCells blk (off + (a + i) * k) cJ1).setCells blk (off + (b + i) * k) cI1 = w2 at S2 ⊢
      go_wp2
      go_roundg (n - (i + 1))
      case measure => omega
      case rel => exact ⟨i + 1, swp dk (a + i) (b + i), by go_num, by omega, Nat.le_refl _, HQ.out.step (by omega) (by omega), S2⟩
    · have hltz : ¬ (i : Int) < (n : Int) := by omega
      obtain rfl : i = n := by omega
      go_wp2
      go_end0
      exact ⟨rfl, dk, HQ.out, S1.out⟩

set_option maxHeartbeats 4000000 in
set_option maxRecDepth 1000000 in
theorem rotate_any (k : Nat) (L : LyT P k) (enc : α → List Value) (cf : α → α → Int) (g : Nat) (cb : Array Value) (blk off cap a m b : Nat) (d0 d : Array α) (w0 w : World)
    (R : RowK enc k w0 blk off d0) (hs : d0.size = d.size) (S : SWK enc k w0 blk off d w) (ham : a < m) (hmb : m < b) (hb : b ≤ d.size) (hsz : d.size < 1099511627776) :
    Calls P 93 #[.slice (some ⟨blk, off, none⟩) d.size cap, .int .i64 a, .int .i64 m, .int .i64 b, .func (.func g) #[] cb] w fun e w' => e = .returned (.tuple #[]) ∧ ∃ d', Rot d d' a m b ∧ PermIn a b d d' ∧ SWK enc k w0 blk off d' w' := by
  have mixed := L.mixed
  have tV := L.tV; have aV := L.aV; have zV := L.zV; have vV := L.vV
  have tI := L.tI; have aI := L.aI; have zI := L.zI; have vI := L.vI
  have tB := L.tB; have aB := L.aB; have zB := L.zB; have vB := L.vB
  have tS := L.tS; have aS := L.aS; have zS := L.zS; have vS := L.vS
  have tF := L.tF; have aF := L.aF; have zF := L.zF; have vF := L.vF
  have tU := L.tU; have aU := L.aU; have zU := L.zU; have vU := L.vU
  have aE := L.aE; have zE := L.zE
  have FG := L.rotate
  have eSW : ∀ args w, (callFunc 94 args).run P w = .ok (.enter 94 args) w := enters_of L.swapRange (by kernel_rfl) rfl
  have S0 : Aside (SWK enc k w0 blk off d w) := S
  clear S
  go_enter FG, Try.ntmps93
  go_wp2
  go_loopg [10, 11] (b - a) (fun kx s10 s11 wr => ∃ (i j : Nat) (dk : Array α), s10 = .int .i64 i ∧ s11 = .int .i64 j ∧ 1 ≤ i ∧ 1 ≤ j ∧ i ≤ m - a ∧ j ≤ b - m ∧ i + j ≤ kx ∧ dk.size = d.size ∧ Hid (PermIn a b d dk ∧ ∀ d', Rot dk d' (m - i) m (m + j) → Rot d d' a m b) ∧ Aside (SWK enc k w0 blk off dk wr))
  case atStart => exact ⟨m - a, b - m, d, by go_num, by go_num, by omega, by omega, Nat.le_refl _, Nat.le_refl _, by omega, rfl, ⟨permIn_refl _ _ _, fun d' h => by rwa [show m - (m - a) = a from by omega, show m + (b - m) = b from by omega] at h⟩, S0⟩
  case round =>
    clear S0
    obtain ⟨i, j, dk, rfl, rfl, hi1, hj1, hi, hj, hkx, hds, HQ, S1⟩ := hrel
    have em : ((m - i : Nat) : Int) = (m : Int) - (i : Int) := by omega
    by_cases hne : i = j
    · subst hne
      have hcall := swapRange_any k L enc cf g cb blk off cap (m - i) m i d0 dk w0 wr R (by omega) S1.out (by omega) (by omega) (by omega)
      rw [hds, em] at hcall
      clear S1
      go_wp2_with (go_at_fn 94; refine hcall.mono ?_; rintro e w1 ⟨rfl, d1, hq, S3⟩)
      go_end0
      exact ⟨rfl, d1, HQ.out.2 d1 (hq.rot (by omega)), permIn_trans _ _ _ _ _ HQ.out.1 (hq.perm a b (by omega) (by omega) (by omega) (by omega) (by omega)), S3⟩
    · have hnez : ¬ ((i : Int) = (j : Int)) := by omega
      by_cases hij : j < i
      · have hijz : (j : Int) < (i : Int) := by omega
        have hcall := swapRange_any k L enc cf g cb blk off cap (m - i) m j d0 dk w0 wr R (by omega) S1.out (by omega) (by omega) (by omega)
        rw [hds, em] at hcall
        clear S1
        go_wp2_with (go_at_fn 94; refine hcall.mono ?_; rintro e w1 ⟨rfl, d1, hq, S3⟩)
        go_roundg (i - j + j)
        case measure => omega
        case rel => exact ⟨i - j, j, d1, by go_num, rfl, by omega, hj1, by omega, hj, Nat.le_refl _, hq.size.trans hds, ⟨permIn_trans _ _ _ _ _ HQ.out.1 (hq.perm a b (by omega) (by omega) (by omega) (by omega) (by omega)), fun d' h => HQ.out.2 d' (hq.rotL (by omega) hij h)⟩, S3⟩
      · have hijz : ¬ ((j : Int) < (i : Int)) := by omega
        have en : ((m + j - i : Nat) : Int) = (m : Int) + (j : Int) - (i : Int) := by omega
        have hcall := swapRange_any k L enc cf g cb blk off cap (m - i) (m + j - i) i d0 dk w0 wr R (by omega) S1.out (by omega) (by omega) (by omega)
        rw [hds, em, en] at hcall
        clear S1
        go_wp2_with (go_at_fn 94; refine hcall.mono ?_; rintro e w1 ⟨rfl, d1, hq, S3⟩)
        go_roundg (i + (j - i))
        case measure => omega
        case rel => exact ⟨i, j - i, d1, rfl, by go_num, hi1, by omega, hi, by omega, Nat.le_refl _, hq.size.trans hds, ⟨permIn_trans _ _ _ _ _ HQ.out.1 (hq.perm a b (by omega) (by omega) (by omega) (by omega) (by omega)), fun d' h => HQ.out.2 d' (hq.rotR (by omega) (by omega) h)⟩, S3⟩

end Go.Proofs.Ytpohmoakilioiaa
