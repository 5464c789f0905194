/- The library's stable sort, whole: at entries, by a comparing function. Conditions: the row is there. -/
import Derived.Test.YtpohmoakilioiaaStZ
namespace Go.Proofs.Ytpohmoakilioiaa
set_option linter.unusedSimpArgs false
set_option linter.unusedVariables false
set_option maxRecDepth 100000
open Go.Shelf Go.RowKit Go.Lib Go.Sort

theorem dvd_step {t x A : Nat} (hx : t ∣ x) (hA : t ∣ A) (h : x < A) : x + t ≤ A := by
  obtain ⟨q, rfl⟩ := hx
  obtain ⟨r, rfl⟩ := hA
  have h1 : q < r := Nat.lt_of_mul_lt_mul_left h
  have h2 := Nat.mul_le_mul_left t (show q + 1 ≤ r from h1)
  rwa [Nat.mul_add, Nat.mul_one] at h2
theorem dvd_at {t x A : Nat} (hx : t ∣ x) (hA : t ∣ A) (h : A ≤ x) (h2 : x < A + t) : x = A := by
  by_cases c : x = A
  · exact c
  · have := dvd_step hA hx (by omega)
    omega

section
variable {α : Type} [Inhabited α] {lt : α → α → Bool}
/-- The blocks of t below A stand right. -/
def BlkTo (lt : α → α → Bool) (t A : Nat) (d : Array α) : Prop := ∀ x, t ∣ x → x < A → SortedIn lt x (x + t) d
def BlkFrom (lt : α → α → Bool) (t A n : Nat) (d : Array α) : Prop := ∀ x, t ∣ x → A ≤ x → SortedIn lt x (min (x + t) n) d
theorem BlkTo.step {t A : Nat} {d d' : Array α} (h : BlkTo lt t A d) (hA : t ∣ A) (p : PermIn A (A + t) d d') (s : SortedIn lt A (A + t) d') : BlkTo lt t (A + t) d' := fun x hx hl => by
  by_cases c : x < A
  · exact SortedIn.perm_out (h x hx c) p (.inl (dvd_step hx hA c))
  · rw [dvd_at hx hA (by omega) hl]
    exact s
theorem BlkTo.last {t A n : Nat} {d d' : Array α} (h : BlkTo lt t A d) (hA : t ∣ A) (hn : n ≤ A + t) (p : PermIn A n d d') (s : SortedIn lt A n d') : BlkFrom lt t 0 n d' := fun x hx _ => by
  by_cases c : x < A
  · exact SortedIn.sub (SortedIn.perm_out (h x hx c) p (.inl (dvd_step hx hA c))) (Nat.le_refl _) (Nat.min_le_left _ _)
  · by_cases c2 : x = A
    · subst c2
      rw [Nat.min_eq_right hn]
      exact s
    · have := dvd_step hA hx (by omega)
      intro i j hi hij hj
      omega
theorem BlkFrom.perm {t A n y : Nat} {d d' : Array α} (h : BlkFrom lt t A n d) (p : PermIn y A d d') : BlkFrom lt t A n d' := fun x hx hl => SortedIn.perm_out (h x hx hl) p (.inr hl)
theorem BlkFrom.up {t A B n : Nat} {d : Array α} (h : BlkFrom lt t A n d) (hB : A ≤ B) : BlkFrom lt t B n d := fun x hx hl => h x hx (Nat.le_trans hB hl)
end

variable {P : Program} {α : Type} [Inhabited α]

set_option maxHeartbeats 8000000 in
set_option maxRecDepth 1000000 in
theorem stable_any (k : Nat) (L : LyT P k) (enc : α → List Value) (cf : α → α → Int) (g : Nat) (cb : Array Value) (blk off cap : Nat) (d0 d : Array α) (w0 w : World)
    (eg : ∀ args w, (callFunc g args).run P w = .ok (.enter g args) w) (hcmp : CmpLays P g cb enc k cf blk off d0.size w0) (hO : SWO (ltOf cf)) (ix : α → Nat) (R : RowK enc k w0 blk off d0) (hs : d0.size = d.size) (S : SWK enc k w0 blk off d w) (hsz : d.size < 1099511627776)
    (eIN : ∀ args w, (callFunc 91 args).run P w = .ok (.enter 91 args) w)
    (IN : ∀ (a b : Nat) (d : Array α) (w : World), d0.size = d.size → SWK enc k w0 blk off d w → a ≤ b → b ≤ d.size → Calls P 91 #[.slice (some ⟨blk, off, none⟩) d.size cap, .int .i64 a, .int .i64 b, .func (.func g) #[] cb] w fun e w' => e = .returned (.tuple #[]) ∧ SWK enc k w0 blk off (insertionSort (ltOf cf) d a b) w') :
    Calls P 90 #[.slice (some ⟨blk, off, none⟩) d.size cap, .int .i64 (d.size : Nat), .func (.func g) #[] cb] w fun e w' =>
      e = .returned (.tuple #[]) ∧ ∃ d', Mrg (ltOf cf) ix d d' 0 d.size ∧ SWK enc k w0 blk off d' w' := by
  have mixed := L.mixed
  have tV := L.tV; have aV := L.aV; have zV := L.zV; have vV := L.vV
  have tI := L.tI; have aI := L.aI; have zI := L.zI; have vI := L.vI
  have tB := L.tB; have aB := L.aB; have zB := L.zB; have vB := L.vB
  have tS := L.tS; have aS := L.aS; have zS := L.zS; have vS := L.vS
  have tF := L.tF; have aF := L.aF; have zF := L.zF; have vF := L.vF
  have tU := L.tU; have aU := L.aU; have zU := L.zU; have vU := L.vU
  have FG := L.stable
  have eSY : ∀ args w, (callFunc 92 args).run P w = .ok (.enter 92 args) w := enters_of L.symMerge (by kernel_rfl) rfl
  have SY := symMerge_any k L enc cf g cb blk off cap d0 w0 eg hcmp hO ix R (by omega)
  have ISP : insertionSort_stmt (ltOf cf) := insertionSort_holds
  have S0 : Aside (SWK enc k w0 blk off d w) := S
  clear S
  obtain ⟨n, hn⟩ : ∃ n, n = d.size := ⟨_, rfl⟩
  have HN : Hid (n = d.size) := hn
  rw [← hn]
  have hnz : n < 1099511627776 := by omega
  clear hn hsz
  go_enter FG, Try.ntmps90
  go_wp2
  go_loopg [7, 8] (n + 20) (fun kx s7 s8 wr => ∃ (A : Nat) (dk : Array α), s7 = .int .i64 A ∧ s8 = .int .i64 ((A + 20 : Nat) : Int) ∧ A ≤ n ∧ n + 20 - A ≤ kx ∧ Hid (20 ∣ A) ∧ Hid (BlkTo (ltOf cf) 20 A dk) ∧ Hid (PermIn 0 n d dk) ∧ Hid (Stb (ltOf cf) ix d → Stb (ltOf cf) ix dk) ∧ Aside (SWK enc k w0 blk off dk wr))
  case atStart => exact ⟨0, d, rfl, rfl, Nat.zero_le _, by omega, ⟨0, rfl⟩, fun x _ h => by omega, permIn_refl _ _ _, fun h => h, S0⟩
  case round =>
    clear S0
    obtain ⟨A, dk, rfl, rfl, hAn, hkx, HD, HB, HP, HT, S1⟩ := hrel
    have hds : dk.size = d.size := HP.out.1
    have hnd : n = dk.size := HN.out.trans hds.symm
    have HND : Hid (n = dk.size) := hnd
    have hs0 : d0.size = dk.size := by omega
    by_cases hle : A + 20 ≤ n
    · have hlez : (A : Int) + 20 ≤ (n : Int) := by omega
      have hcall := IN A (A + 20) dk wr hs0 S1.out (by omega) (by omega)
      rw [← hnd] at hcall
      clear S1 hnd hds
      go_wp2_with (go_at_fn 91; refine hcall.mono ?_; rintro e w1 ⟨rfl, S3r⟩)
      have S3 : Aside (SWK enc k w0 blk off (insertionSort (ltOf cf) dk A (A + 20)) w1) := S3r
      clear S3r
      go_roundg (n - A)
      case measure => omega
      case rel =>
        have q := ISP hO dk A (A + 20) (by omega) (by rw [← HND.out]; exact hle)
        exact ⟨A + 20, insertionSort (ltOf cf) dk A (A + 20), by go_num, by go_num, hle, by omega, (Nat.dvd_add HD.out ⟨1, rfl⟩), HB.out.step HD.out q.1 q.2, permIn_trans _ _ _ _ _ HP.out (permIn_mono _ _ _ _ _ _ (Nat.zero_le _) hle (by rw [← HND.out]; exact Nat.le_refl _) q.1), fun h => (HT.out h).insertion (by rw [← HND.out]; exact hle), S3⟩
    · have hlez : ¬ (A : Int) + 20 ≤ (n : Int) := by omega
      have hcall := IN A n dk wr hs0 S1.out hAn (by omega)
      rw [← hnd] at hcall
      clear S1 hnd hds
      go_wp2_with (go_at_fn 91; refine hcall.mono ?_; rintro e w1 ⟨rfl, S3r⟩)
      have S3 : Aside (SWK enc k w0 blk off (insertionSort (ltOf cf) dk A n) w1) := S3r
      have q := ISP hO dk A n hAn (by rw [← HND.out]; exact Nat.le_refl _)
      have HB2 : Hid (BlkFrom (ltOf cf) 20 0 n (insertionSort (ltOf cf) dk A n)) := HB.out.last HD.out (by omega) q.1 q.2
      have HP2 : Hid (PermIn 0 n d (insertionSort (ltOf cf) dk A n)) := permIn_trans _ _ _ _ _ HP.out (permIn_mono _ _ _ _ _ _ (Nat.zero_le _) (Nat.le_refl _) (by rw [← HND.out]; exact Nat.le_refl _) q.1)
      have HT2 : Hid (Stb (ltOf cf) ix d → Stb (ltOf cf) ix (insertionSort (ltOf cf) dk A n)) := fun h => (HT.out h).insertion (by rw [← HND.out]; exact Nat.le_refl _)
      clear S3r q HB HP HT HND hs0 HD hkx
      generalize insertionSort (ltOf cf) dk A n = dj at S3 HB2 HP2 HT2
      go_wp2
      go_loopg [6] n (fun kx s6 wr => ∃ (t : Nat) (dk : Array α), s6 = .int .i64 t ∧ 20 ≤ t ∧ t < 4398046511104 ∧ n - t ≤ kx ∧ Hid (BlkFrom (ltOf cf) t 0 n dk) ∧ Hid (PermIn 0 n d dk) ∧ Hid (Stb (ltOf cf) ix d → Stb (ltOf cf) ix dk) ∧ Aside (SWK enc k w0 blk off dk wr))
      case atStart => exact ⟨20, dj, rfl, Nat.le_refl _, by omega, by omega, HB2, HP2, HT2, S3⟩
      case round =>
        clear S3 HB2 HP2 HT2 hle hlez hAn
        clear dj
        obtain ⟨t, dk, rfl, ht, htm, hkx, HB, HP, HT, S1⟩ := hrel
        by_cases hlt : t < n
        · have hltz : (t : Int) < (n : Int) := by omega
          go_wp2
          go_loopg [7, 8] (n + t + t) (fun kx s7 s8 wr => ∃ (A : Nat) (dk : Array α), s7 = .int .i64 A ∧ s8 = .int .i64 ((A + 2 * t : Nat) : Int) ∧ A ≤ n ∧ n + t + t - A ≤ kx ∧ Hid (2 * t ∣ A) ∧ Hid (BlkTo (ltOf cf) (2 * t) A dk) ∧ Hid (BlkFrom (ltOf cf) t A n dk) ∧ Hid (PermIn 0 n d dk) ∧ Hid (Stb (ltOf cf) ix d → Stb (ltOf cf) ix dk) ∧ Aside (SWK enc k w0 blk off dk wr))
          case atStart => exact ⟨0, dk, rfl, by go_num, Nat.zero_le _, by omega, ⟨0, rfl⟩, fun x _ h => by omega, HB, HP, HT, S1⟩
          case round =>
            clear S1 HB HP HT
            clear dk
            obtain ⟨A, dk, rfl, rfl, hAn, hkx2, HD, HB, HF, HP, HT, S1⟩ := hrel
            have hds : dk.size = d.size := HP.out.1
            have hnd : n = dk.size := HN.out.trans hds.symm
            have HND : Hid (n = dk.size) := hnd
            have hs0 : d0.size = dk.size := by omega
            have htA : Hid (t ∣ A) := Nat.dvd_trans ⟨2, by omega⟩ HD.out
            have hA1 : SortedIn (ltOf cf) A (min (A + t) n) dk := HF.out A htA.out (Nat.le_refl _)
            have hA2 : SortedIn (ltOf cf) (A + t) (min (A + t + t) n) dk := HF.out (A + t) (Nat.dvd_add htA.out ⟨1, by omega⟩) (by omega)
            by_cases hle : A + 2 * t ≤ n
            · have hlez : (A : Int) + 2 * (t : Int) ≤ (n : Int) := by omega
              have hcall := SY (A + 2 * t) A (A + t) (A + 2 * t) dk wr (by omega) hs0 S1.out (by omega) (by omega) (by omega) (by rwa [Nat.min_eq_left (by omega)] at hA1) (by rwa [Nat.min_eq_left (by omega), show A + t + t = A + 2 * t by omega] at hA2)
              rw [← hnd] at hcall
              clear S1 hnd hds hA1 hA2
              have hb1 : (A : Int) + (t : Int) < 9223372036854775808 := by omega
              go_wp2_with (go_at_fn 92; refine hcall.mono ?_; rintro e w1 ⟨rfl, d1, M1r, S3r⟩)
              have S3 : Aside (SWK enc k w0 blk off d1 w1) := S3r
              have M1 : Hid (Mrg (ltOf cf) ix dk d1 A (A + 2 * t)) := M1r
              clear S3r M1r
              go_roundg (n - A)
              case measure => omega
              case rel =>
                exact ⟨A + 2 * t, d1, by go_num, by go_num, hle, by omega, (Nat.dvd_add HD.out ⟨1, by omega⟩), HB.out.step HD.out M1.out.perm M1.out.sort, (HF.out.up (by omega)).perm M1.out.perm, permIn_trans _ _ _ _ _ HP.out (permIn_mono _ _ _ _ _ _ (Nat.zero_le _) hle (by rw [← HND.out]; exact Nat.le_refl _) M1.out.perm), fun h => M1.out.stb (HT.out h), S3⟩
            · have hlez : ¬ (A : Int) + 2 * (t : Int) ≤ (n : Int) := by omega
              by_cases hm : A + t < n
              · have hmz : (A : Int) + (t : Int) < (n : Int) := by omega
                have hcall := SY n A (A + t) n dk wr (by omega) hs0 S1.out (by omega) hm (by omega) (by rwa [Nat.min_eq_left (by omega)] at hA1) (by rwa [Nat.min_eq_right (by omega)] at hA2)
                rw [← hnd] at hcall
                clear S1 hnd hds hA1 hA2
                go_wp2_with (go_at_fn 92; refine hcall.mono ?_; rintro e w1 ⟨rfl, d1, M1r, S3r⟩)
                have S3 : Aside (SWK enc k w0 blk off d1 w1) := S3r
                have M1 : Hid (Mrg (ltOf cf) ix dk d1 A n) := M1r
                clear S3r M1r
                go_roundg (n - 2 * t)
                case measure => omega
                case rel =>
                  exact ⟨2 * t, d1, by go_num, by omega, by omega, by omega, HB.out.last HD.out (by omega) M1.out.perm M1.out.sort, permIn_trans _ _ _ _ _ HP.out (permIn_mono _ _ _ _ _ _ (Nat.zero_le _) (Nat.le_refl _) (by rw [← HND.out]; exact Nat.le_refl _) M1.out.perm), fun h => M1.out.stb (HT.out h), S3⟩
              · have hmz : ¬ (A : Int) + (t : Int) < (n : Int) := by omega
                have hmb : decide ((A : Int) + (t : Int) < (n : Int)) = false := decide_eq_false (by omega)
                rw [Nat.min_eq_right (by omega)] at hA1
                have HA1 : Hid _ := hA1
                clear hA1 hA2 hnd hds
                go_wp2
                go_roundg (n - 2 * t)
                case measure => omega
                case rel => exact ⟨2 * t, dk, by go_num, by omega, by omega, by omega, HB.out.last HD.out (by omega) (permIn_refl _ _ _) HA1.out, HP, HT, S1⟩
        · have hltz : ¬ (t : Int) < (n : Int) := by omega
          go_wp2
          go_end0
          refine ⟨rfl, dk, ⟨HP.out, ?_, HT.out⟩, S1.out⟩
          have h := HB.out 0 ⟨0, rfl⟩ (Nat.le_refl _)
          rw [Nat.zero_add, Nat.min_eq_right (by omega)] at h
          exact h

end Go.Proofs.Ytpohmoakilioiaa
