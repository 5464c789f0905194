/- The law's fill: a list, and the document's. Conditions: the list reads. -/
import Derived.Test.YtddaagldelcbeaaSkR
import Derived.Test.YtddaagldelcbeaaRf6P
import Derived.Test.YtddaagldelcbeaaRf6Q
import Derived.Test.YtddaagldelcbeaaOwnS
import Derived.Test.YtddaagldelcbeaaIter
import Derived.StillTailTactics
namespace Go.Proofs.Ytddaagldelcbeaa
set_option linter.unusedSimpArgs false
set_option linter.unusedVariables false
open Go.RowKit

def putAll (xs : List Ent) : List Ent := xs.foldl (fun l x => (insP l x).1) []
theorem putAll_snoc (xs : List Ent) (x : Ent) : putAll (xs ++ [x]) = (insP (putAll xs) x).1 := by simp [putAll]
theorem insP_len (xs : List Ent) (x : Ent) : (insP xs x).1.length ≤ xs.length + 1 := by
  have h := congrArg List.length (List.takeWhile_append_dropWhile (p := ahE x) (l := xs))
  unfold insP
  split
  · split
    · rename_i hd; rw [hd] at h; simp at h ⊢; omega
    · rename_i hd; rw [hd] at h
      split
      · simp
      · simp at h ⊢; omega
  · simp
theorem rsame_self (u v : Value) (x : Ent) (w : World) (hx : RdE w u x) (hy : RdE w v x) :
    Calls Try.prog 22 #[u, v] w fun e w' => e = .returned (.bool true) ∧ Ext w w' := by
  have := rsame_any u v x x w hx hy
  simpa using this
theorem Kept.grown {X : Nat → Prop} {a b : World} {row : Option Nat} (h : a.grownBy b row) (hx : ∀ g, row = some g → ¬ X g) : Kept X a b :=
  ⟨h.os, h.tape, h.output, h.size, fun k hk hX => h.block k hk (fun e => hx k e.symm hX)⟩

structure FilI (w : World) (xs : List Ent) (g h : Nat) (k : Nat) (L : List Nd) (A' : Option Addr) (n' c' : Nat) (wr : World) : Prop where
  s : SkL wr g h L
  e : L.map Nd.x = putAll (xs.take k)
  len : L.length ≤ k
  t : ∀ b, skT g h L b → w.heap.size ≤ b
  r : RdQ (fun b => ¬ skT g h L b) wr A' n' (putAll (xs.take k))
  nc : n' ≤ c'
  ext : Ext w wr

set_option maxRecDepth 100000 in
set_option maxHeartbeats 8000000 in
theorem fill_any (A : Option Addr) (n c : Nat) (xs : List Ent) (w : World) (hl : RdL w A n xs) (hnc : n ≤ c) (hn : n ≤ 1000) :
    Calls Try.prog 14 #[.slice A n c] w fun e w' => ∃ g h L A' n' c', e = .returned (.tuple #[.pointer (some ⟨g, 0, none⟩), .slice A' n' c', .bool true]) ∧ FilI w xs g h n L A' n' c' w' := by
  have HL := Lib.hid hl
  have hxl := hl.1
  clear hl
  go_enter Try.func14, Try.ntmps14
  go_wp2_with fail
  refine (new_any _).mono ?_
  rintro e w1 ⟨rfl, hs1, hw1⟩
  have HS1 := Lib.hid hs1
  have X1 := Lib.hid hw1
  obtain ⟨g, hg⟩ : ∃ g, g = w.heap.size + 1 := ⟨_, rfl⟩
  obtain ⟨h, hh⟩ : ∃ h, h = w.heap.size := ⟨_, rfl⟩
  have hI : FilI w xs g h 0 [] none 0 0 w1 := by
    refine ⟨by rw [hg, hh]; exact hs1, rfl, Nat.le_refl _, fun b hb => ?_, RdQ.nil _ _ _, Nat.le_refl _, hw1⟩
    rcases hb with rfl | rfl | hb
    · omega
    · omega
    · simp at hb
  rw [← hg]
  have HI := Lib.hid hI
  clear hs1 hw1 hg hh hI
  go_wp2
  go_loopw [6, 7] (fun v i wr => ∃ k L A' n' c', k ≤ n ∧ i = .int .i64 (k : Nat) ∧ v = .slice A' n' c' ∧ Hid (FilI w xs g h k L A' n' c' wr)) (fun _ i _ => n - (intOf i).toNat)
  case atStart => exact ⟨0, [], none, 0, 0, Nat.zero_le _, rfl, rfl, HI⟩
  case round =>
    obtain ⟨k, L, A', n', c', hk, rfl, rfl, HF⟩ := hrel
    by_cases hlt : k < n
    · have hltI : (k : Int) < (n : Int) := by omega
      have hncI : (n : Int) ≤ (c : Int) := by omega
      obtain ⟨b, o, rfl, _⟩ := HL.out.2.2 (by omega)
      obtain ⟨A1, n1, c1, A2, n2, c2, hx, e0, e1, e2, e3, hry⟩ := r6at HL.out hlt HF.out.ext
      obtain ⟨x, hxd⟩ : ∃ x, x = xs[k] := ⟨_, rfl⟩
      have hxt : xs.take (k + 1) = xs.take k ++ [x] := by rw [hxd]; exact List.take_succ_eq_append_getElem hx
      rw [← hxd] at e1 e2 hry
      have HRY := Lib.hid hry
      have HXT := Lib.hid hxt
      have hkp : ∀ w', Ext wr w' → w'.cell? ⟨b, o + k * 4, none⟩ = some (.slice A1 n1 c1) ∧ w'.cell? ⟨b, o + k * 4 + 1, none⟩ = some (.int .i64 x.seq) ∧ w'.cell? ⟨b, o + k * 4 + 2, none⟩ = some (.int .i64 x.kind) ∧ w'.cell? ⟨b, o + k * 4 + 3, none⟩ = some (.slice A2 n2 c2) := fun w' e => ⟨e.keeps _ _ _ e0, e.keeps _ _ _ e1, e.keeps _ _ _ e2, e.keeps _ _ _ e3⟩
      have hkw : ∀ w', Ext w w' → w'.cell? ⟨b, o + k * 4, none⟩ = some (.slice A1 n1 c1) ∧ w'.cell? ⟨b, o + k * 4 + 1, none⟩ = some (.int .i64 x.seq) ∧ w'.cell? ⟨b, o + k * 4 + 2, none⟩ = some (.int .i64 x.kind) ∧ w'.cell? ⟨b, o + k * 4 + 3, none⟩ = some (.slice A2 n2 c2) := by
        intro w' e
        obtain ⟨A1', n1', c1', A2', n2', c2', hx', d0, d1, d2, d3, _⟩ := r6at HL.out hlt (Ext.rfl_ w)
        have i0 := HF.out.ext.keeps _ _ _ d0
        have i1 := HF.out.ext.keeps _ _ _ d1
        have i3 := HF.out.ext.keeps _ _ _ d3
        rw [e0] at i0
        rw [e3] at i3
        cases i0
        cases i3
        exact ⟨e.keeps _ _ _ d0, by rw [hxd]; exact e.keeps _ _ _ d1, by rw [hxd]; exact e.keeps _ _ _ d2, e.keeps _ _ _ d3⟩
      have HKW := Lib.hid hkw
      clear hxd hry hxt hkp hkw
      go_wp2_with fail
      refine (rcopy_any _ x _ (HRY.out.ext (HF.out.ext.trans (by with_reducible (repeat (first | exact Ext.rfl_ _ | assumption | refine Ext.drew ?_ | refine Ext.drewN ?_ _ | refine Ext.alloc ?_ _ | refine Ext.trans ?_ (by assumption))))))).mono ?_
      rintro e w2 ⟨v2, rfl, hf2, hw2⟩
      have X2 := Lib.hid (show Ext wr w2 from (by with_reducible (repeat (first | exact Ext.rfl_ _ | assumption | refine Ext.drew ?_ | refine Ext.drewN ?_ _ | refine Ext.alloc ?_ _ | refine Ext.trans ?_ (by assumption)))))
      have HF2 := Lib.hid hf2
      obtain ⟨A3, n3, c3, B3, m3, d3, rfl, o3, p3, r3, s3, b1, b2, b3, b4, _, _⟩ := hf2
      have HO3 := Lib.hid o3
      have HP3 := Lib.hid p3
      clear o3 p3 r3 s3 hw2 e0 e1 e2 e3
      have HB3 := Lib.hid (blk1 w2 (.cells #[.slice A3 n3 c3, .int .i64 x.seq, .int .i64 x.kind, .slice B3 m3 d3] 40))
      obtain ⟨q0, q1, q2, q3, f0, f1, f2, f3⟩ := box4 HB3.out (Ext.rfl_ _)
      go_wp2_with fail
      refine (skput_any g h L _ x _ (HF.out.s.ext (X2.out.trans (by with_reducible (repeat (first | exact Ext.rfl_ _ | assumption | refine Ext.drew ?_ | refine Ext.drewN ?_ _ | refine Ext.alloc ?_ _ | refine Ext.trans ?_ (by assumption)))))) (HF2.out.rd.ext (by with_reducible (repeat (first | exact Ext.rfl_ _ | assumption | refine Ext.drew ?_ | refine Ext.drewN ?_ _ | refine Ext.alloc ?_ _ | refine Ext.trans ?_ (by assumption))))) (by have := HF.out.len; omega)).mono ?_
      rintro e w3 ⟨rfl, L', hL', hs3, hk3, hnd3, hlen3⟩
      have hTlt := HF.out.s.lt
      have h2b : w2.heap.size < (w2.alloc (.cells #[.slice A3 n3 c3, .int .i64 x.seq, .int .i64 x.kind, .slice B3 m3 d3] 40)).heap.size := by simp
      obtain ⟨w2b, hw2b⟩ : ∃ w2b, w2b = w2.alloc (.cells #[.slice A3 n3 c3, .int .i64 x.seq, .int .i64 x.kind, .slice B3 m3 d3] 40) := ⟨_, rfl⟩
      have X2B := Lib.hid (show Ext w2 w2b by rw [hw2b]; exact (by with_reducible (repeat (first | exact Ext.rfl_ _ | assumption | refine Ext.drew ?_ | refine Ext.drewN ?_ _ | refine Ext.alloc ?_ _ | refine Ext.trans ?_ (by assumption)))))
      rw [← hw2b] at hk3 hnd3 h2b HB3
      clear hw2b q0 q1 q2 q3 f0 f1 f2 f3
      have XB := Lib.hid (HF.out.ext.trans (X2.out.trans X2B.out))
      have XRB := Lib.hid (X2.out.trans X2B.out)
      have HK3 := Lib.hid hk3
      have HKZ := Lib.hid hk3.size
      have HLE3 := Lib.hid hlen3
      have HS3 := Lib.hid hs3
      have HL3 := Lib.hid hL'
      have HN3 := Lib.hid hnd3
      have H2B := Lib.hid h2b
      have HTL := Lib.hid hTlt
      have X3 := Lib.hid (hk3.ext_of XB.out (fun j hj hT => by have := HF.out.t j hT; omega))
      have hbn : ¬ skT g h L w2.heap.size := fun e => by have := hTlt _ e; have := X2.out.size; omega
      have HB4 := Lib.hid ((hk3.block w2.heap.size h2b hbn).trans HB3.out)
      have hnoU := (HF.out.s.ext XRB.out).noU
      have HV3 := Lib.hid ((HF2.out.rd.ext X2B.out).keptU hk3 hnoU)
      have hnk : ∀ q, (Value.slice A3 n3 c3).ownBlock = some q → wr.heap.size ≤ q ∧ q < w2.heap.size := fun q hq => by have := HO3.out.out.lt q hq; simpa using this
      have hnv : ∀ q, (Value.slice B3 m3 d3).ownBlock = some q → wr.heap.size ≤ q ∧ q < w2.heap.size := fun q hq => by have := HP3.out.out.lt q hq; simpa using this
      have HO4 := Lib.hid ((HO3.out.ext X2B.out).keptX hk3 (fun q hq e => by have := hTlt _ e; have := (hnk q hq).1; omega))
      have HP4 := Lib.hid ((HP3.out.ext X2B.out).keptX hk3 (fun q hq e => by have := hTlt _ e; have := (hnv q hq).1; omega))
      have HNK := Lib.hid hnk
      have HNV := Lib.hid hnv
      have hrq := ((HF.out.r.lt.ext XRB.out).kept hk3 (fun b _ hz => hz.1))
      have HRQ := Lib.hid hrq
      have hn'k : n' ≤ k := by
        have h1 := hrq.rdl.1
        have h2 := congrArg List.length HF.out.e
        rw [List.length_map] at h2
        have := HF.out.len
        omega
      have hz2 : (insP (L.map Nd.x) x) = insP (putAll (xs.take k)) x := by rw [HF.out.e]
      rw [hz2]
      rw [hz2] at HL3
      have HZ2 := Lib.hid hz2
      obtain ⟨i0, i1, i2, i3⟩ := HKW.out w3 X3.out
      clear hk3 hs3 hL' hnd3 hTlt hbn hnoU hnk hnv hrq hz2 h2b
      go_wp2_with fail
      refine (rput_any (fun b => ¬ skT g h L b ∧ b < wr.heap.size) A' n' c' (putAll (xs.take k)) _ x _ (HRQ.out.ext (by with_reducible (repeat (first | exact Ext.rfl_ _ | assumption | refine Ext.drew ?_ | refine Ext.drewN ?_ _ | refine Ext.alloc ?_ _ | refine Ext.trans ?_ (by assumption))))) HF.out.nc (HRY.out.ext (X3.out.trans (by with_reducible (repeat (first | exact Ext.rfl_ _ | assumption | refine Ext.drew ?_ | refine Ext.drewN ?_ _ | refine Ext.alloc ?_ _ | refine Ext.trans ?_ (by assumption)))))) (by unfold B41; omega)).mono ?_
      rintro e w4 ⟨A4, n4, c4, rfl, hnc4, hq4, hw4⟩
      have X34 := Lib.hid (show Ext w3 w4 from (by with_reducible (repeat (first | exact Ext.rfl_ _ | assumption | refine Ext.drew ?_ | refine Ext.drewN ?_ _ | refine Ext.alloc ?_ _ | refine Ext.trans ?_ (by assumption)))))
      have HZ3 : Hid (w3.heap.size = w3.heap.size) := Lib.hid rfl
      have HQ4 := Lib.hid hq4
      clear hw4 hq4 i0 i1 i2 i3
      obtain ⟨z, hz⟩ : ∃ z, z = (insP (putAll (xs.take k)) x).2 := ⟨_, rfl⟩
      rw [← hz]
      clear hz
      have hzz : (z == z) = true := by simp
      go_wp2
      refine wp_region_held_drew (S := (fun w' => (w'.cell? ⟨b, o + k * 4, none⟩ = some (.slice A1 n1 c1) ∧ w'.cell? ⟨b, o + k * 4 + 1, none⟩ = some (.int .i64 x.seq) ∧ w'.cell? ⟨b, o + k * 4 + 2, none⟩ = some (.int .i64 x.kind) ∧ w'.cell? ⟨b, o + k * 4 + 3, none⟩ = some (.slice A2 n2 c2)) ∧ w'.cell? ⟨w2.heap.size, 0, none⟩ = some (.slice A3 n3 c3) ∧ w'.cell? ⟨w2.heap.size, 1, none⟩ = some (.int .i64 x.seq) ∧ w'.cell? ⟨w2.heap.size, 2, none⟩ = some (.int .i64 x.kind) ∧ w'.cell? ⟨w2.heap.size, 3, none⟩ = some (.slice B3 m3 d3) ∧ w'.frozen? ⟨w2.heap.size, 0, none⟩ = false ∧ w'.frozen? ⟨w2.heap.size, 1, none⟩ = false ∧ w'.frozen? ⟨w2.heap.size, 2, none⟩ = false ∧ w'.frozen? ⟨w2.heap.size, 3, none⟩ = false)) (by kernel_rfl) (by (try dsimp only); exact ⟨HKW.out _ (X3.out.trans (X34.out.trans (by with_reducible (repeat (first | exact Ext.rfl_ _ | assumption | refine Ext.drew ?_ | refine Ext.drewN ?_ _ | refine Ext.alloc ?_ _ | refine Ext.trans ?_ (by assumption)))))), box4 HB4.out (X34.out.trans (by with_reducible (repeat (first | exact Ext.rfl_ _ | assumption | refine Ext.drew ?_ | refine Ext.drewN ?_ _ | refine Ext.alloc ?_ _ | refine Ext.trans ?_ (by assumption)))))⟩) (fun hHeld => ?_)
      refine wpAnyH_take (i := 0) (oi := ({ dst := some 39, op := Go.Op.move (Go.Operand.tmp 9), type := 41, pos := "law.go:64", after := #[], guard := none } : Go.Oper)) (v := ?v1) rfl (by kernel_rfl) (by kernel_rfl) (by kernel_rfl) (fun _ _ _ h => h) (Or.inl ⟨by rfl, ?hy1⟩) (by assumption) ?rest1
      case hy1 => (intro w hSw; (try dsimp only at hSw); go_simp; (try with_reducible rfl))
      (try simp only [Act.put, List.getElem_toArray, List.getElem_cons_zero, List.getElem_cons_succ, List.setIfInBounds_toArray, List.set_cons_zero, List.set_cons_succ])
      refine wpAnyH_take (i := 2) (oi := ({ dst := some 41, op := Go.Op.move (Go.Operand.tmp 10), type := 3, pos := "law.go:64", after := #[], guard := none } : Go.Oper)) (v := ?v2) rfl (by kernel_rfl) (by kernel_rfl) (by kernel_rfl) (fun _ _ _ h => h) (Or.inl ⟨by rfl, ?hy2⟩) (by assumption) ?rest2
      case hy2 => (intro w hSw; (try dsimp only at hSw); go_simp; (try with_reducible rfl))
      (try simp only [Act.put, List.getElem_toArray, List.getElem_cons_zero, List.getElem_cons_succ, List.setIfInBounds_toArray, List.set_cons_zero, List.set_cons_succ])
      refine wpAnyH_ready (rs := [1]) (by kernel_rfl) (by simp) ?_
      refine AllReadyH.cons (o := ({ dst := some 40, op := Go.Op.call { callee := Go.Callee.value (Go.Operand.func 23), args := #[Go.Operand.tmp 39], argTypes := #[41] }, type := 3, pos := "law.go:64", after := #[{ on := 0, ground := Go.Ground.data }], guard := none } : Go.Oper)) rfl (fun K hK => ?_) AllReadyH.nil
      go_simp
      (first | (go_at_call 23; refine (num_any _ _).mono ?_; rintro e w6 ⟨rfl, rfl⟩) | (go_at_call 22; refine (rsame_self _ _ x _ ?_ ?_).mono ?_; exact HV3.out.ext (X34.out.trans (by with_reducible (repeat (first | exact Ext.rfl_ _ | assumption | refine Ext.drew ?_ | refine Ext.drewN ?_ _ | refine Ext.alloc ?_ _ | refine Ext.trans ?_ (by assumption))))); exact HRY.out.ext (X3.out.trans (X34.out.trans (by with_reducible (repeat (first | exact Ext.rfl_ _ | assumption | refine Ext.drew ?_ | refine Ext.drewN ?_ _ | refine Ext.alloc ?_ _ | refine Ext.trans ?_ (by assumption)))))); rintro e w5 ⟨rfl, hw5⟩))
      (try (go_wp2_with fail))
      refine hK.out _ _ (by (try dsimp only); exact ⟨HKW.out _ (X3.out.trans (X34.out.trans (by with_reducible (repeat (first | exact Ext.rfl_ _ | assumption | refine Ext.drew ?_ | refine Ext.drewN ?_ _ | refine Ext.alloc ?_ _ | refine Ext.trans ?_ (by assumption)))))), box4 HB4.out (X34.out.trans (by with_reducible (repeat (first | exact Ext.rfl_ _ | assumption | refine Ext.drew ?_ | refine Ext.drewN ?_ _ | refine Ext.alloc ?_ _ | refine Ext.trans ?_ (by assumption)))))⟩) (fun hHeld => ?_)
      clear hK K
      (try simp only [Act.put, List.getElem_toArray, List.getElem_cons_zero, List.getElem_cons_succ, List.setIfInBounds_toArray, List.set_cons_zero, List.set_cons_succ])
      refine wpAnyH_take (i := 3) (oi := ({ dst := some 42, op := Go.Op.binOp Go.BinOp.neq 3 (Go.Operand.tmp 40) (Go.Operand.tmp 41) 3, type := 4, pos := "law.go:64", after := #[{ on := 1, ground := Go.Ground.data }, { on := 2, ground := Go.Ground.data }], guard := none } : Go.Oper)) (v := ?v3) rfl (by kernel_rfl) (by kernel_rfl) (by kernel_rfl) (fun _ _ _ h => h) (Or.inl ⟨by rfl, ?hy3⟩) (by assumption) ?rest3
      case hy3 => (intro w hSw; (try dsimp only at hSw); go_simp; (try with_reducible rfl))
      (try simp only [Act.put, List.getElem_toArray, List.getElem_cons_zero, List.getElem_cons_succ, List.setIfInBounds_toArray, List.set_cons_zero, List.set_cons_succ])
      refine wpAnyH_take (i := 4) (oi := ({ dst := some 43, op := Go.Op.move (Go.Operand.tmp 42), type := 4, pos := "law.go:64", after := #[{ on := 3, ground := Go.Ground.data }, { on := 1, ground := Go.Ground.chain }], guard := none } : Go.Oper)) (v := ?v4) rfl (by kernel_rfl) (by kernel_rfl) (by kernel_rfl) (fun _ _ _ h => h) (Or.inl ⟨by rfl, ?hy4⟩) (by assumption) ?rest4
      case hy4 => (intro w hSw; (try dsimp only at hSw); go_simp; (try with_reducible rfl))
      (try simp only [Act.put, List.getElem_toArray, List.getElem_cons_zero, List.getElem_cons_succ, List.setIfInBounds_toArray, List.set_cons_zero, List.set_cons_succ])
      refine wpAnyH_take (i := 5) (oi := ({ dst := some 44, op := Go.Op.load 40 (Go.Operand.tmp 8), type := 40, pos := "law.go:64", after := #[{ on := 4, ground := Go.Ground.guard }], guard := some (4, false) } : Go.Oper)) (v := ?v5) rfl (by kernel_rfl) (by kernel_rfl) (by kernel_rfl) (fun _ _ _ h => h) (Or.inl ⟨by rfl, ?hy5⟩) (by assumption) ?rest5
      case hy5 => (intro w hSw; (try dsimp only at hSw); go_simp; (try with_reducible rfl))
      (try simp only [Act.put, List.getElem_toArray, List.getElem_cons_zero, List.getElem_cons_succ, List.setIfInBounds_toArray, List.set_cons_zero, List.set_cons_succ])
      refine wpAnyH_take (i := 6) (oi := ({ dst := some 45, op := Go.Op.move (Go.Operand.tmp 0), type := 26, pos := "law.go:64", after := #[{ on := 4, ground := Go.Ground.guard }], guard := some (4, false) } : Go.Oper)) (v := ?v6) rfl (by kernel_rfl) (by kernel_rfl) (by kernel_rfl) (fun _ _ _ h => h) (Or.inl ⟨by rfl, ?hy6⟩) (by assumption) ?rest6
      case hy6 => (intro w hSw; (try dsimp only at hSw); go_simp; (try with_reducible rfl))
      (try simp only [Act.put, List.getElem_toArray, List.getElem_cons_zero, List.getElem_cons_succ, List.setIfInBounds_toArray, List.set_cons_zero, List.set_cons_succ])
      refine wpAnyH_take (i := 7) (oi := ({ dst := some 46, op := Go.Op.move (Go.Operand.tmp 7), type := 3, pos := "law.go:64", after := #[{ on := 4, ground := Go.Ground.guard }], guard := some (4, false) } : Go.Oper)) (v := ?v7) rfl (by kernel_rfl) (by kernel_rfl) (by kernel_rfl) (fun _ _ _ h => h) (Or.inl ⟨by rfl, ?hy7⟩) (by assumption) ?rest7
      case hy7 => (intro w hSw; (try dsimp only at hSw); go_simp; (try with_reducible rfl))
      (try simp only [Act.put, List.getElem_toArray, List.getElem_cons_zero, List.getElem_cons_succ, List.setIfInBounds_toArray, List.set_cons_zero, List.set_cons_succ])
      refine wpAnyH_take (i := 8) (oi := ({ dst := some 47, op := Go.Op.indexAddr 26 (Go.Operand.tmp 45) (Go.Operand.tmp 46), type := 0, pos := "law.go:64", after := #[{ on := 6, ground := Go.Ground.data }, { on := 7, ground := Go.Ground.data }, { on := 4, ground := Go.Ground.guard }], guard := some (4, false) } : Go.Oper)) (v := ?v8) rfl (by kernel_rfl) (by kernel_rfl) (by kernel_rfl) (fun _ _ _ h => h) (Or.inl ⟨by rfl, ?hy8⟩) (by assumption) ?rest8
      case hy8 => (intro w hSw; (try dsimp only at hSw); go_simp; (try with_reducible rfl))
      (try simp only [Act.put, List.getElem_toArray, List.getElem_cons_zero, List.getElem_cons_succ, List.setIfInBounds_toArray, List.set_cons_zero, List.set_cons_succ])
      refine wpAnyH_take (i := 9) (oi := ({ dst := some 48, op := Go.Op.load 40 (Go.Operand.tmp 47), type := 40, pos := "law.go:64", after := #[{ on := 8, ground := Go.Ground.data }, { on := 4, ground := Go.Ground.guard }], guard := some (4, false) } : Go.Oper)) (v := ?v9) rfl (by kernel_rfl) (by kernel_rfl) (by kernel_rfl) (fun _ _ _ h => h) (Or.inl ⟨by rfl, ?hy9⟩) (by assumption) ?rest9
      case hy9 => (intro w hSw; (try dsimp only at hSw); go_simp; (try with_reducible rfl))
      (try simp only [Act.put, List.getElem_toArray, List.getElem_cons_zero, List.getElem_cons_succ, List.setIfInBounds_toArray, List.set_cons_zero, List.set_cons_succ])
      refine wpAnyH_ready (rs := [10]) (by kernel_rfl) (by simp) ?_
      refine AllReadyH.cons (o := ({ dst := some 49, op := Go.Op.call { callee := Go.Callee.value (Go.Operand.func 22), args := #[Go.Operand.tmp 44, Go.Operand.tmp 48], argTypes := #[40, 40] }, type := 4, pos := "law.go:64", after := #[{ on := 5, ground := Go.Ground.data }, { on := 9, ground := Go.Ground.data }, { on := 4, ground := Go.Ground.chain }, { on := 4, ground := Go.Ground.guard }], guard := some (4, false) } : Go.Oper)) rfl (fun K hK => ?_) AllReadyH.nil
      go_simp
      (first | (go_at_call 23; refine (num_any _ _).mono ?_; rintro e w6 ⟨rfl, rfl⟩) | (go_at_call 22; refine (rsame_self _ _ x _ ?_ ?_).mono ?_; exact HV3.out.ext (X34.out.trans (by with_reducible (repeat (first | exact Ext.rfl_ _ | assumption | refine Ext.drew ?_ | refine Ext.drewN ?_ _ | refine Ext.alloc ?_ _ | refine Ext.trans ?_ (by assumption))))); exact HRY.out.ext (X3.out.trans (X34.out.trans (by with_reducible (repeat (first | exact Ext.rfl_ _ | assumption | refine Ext.drew ?_ | refine Ext.drewN ?_ _ | refine Ext.alloc ?_ _ | refine Ext.trans ?_ (by assumption)))))); rintro e w5 ⟨rfl, hw5⟩))
      (try (go_wp2_with fail))
      refine hK.out _ _ (by (try dsimp only); exact ⟨HKW.out _ (X3.out.trans (X34.out.trans (by with_reducible (repeat (first | exact Ext.rfl_ _ | assumption | refine Ext.drew ?_ | refine Ext.drewN ?_ _ | refine Ext.alloc ?_ _ | refine Ext.trans ?_ (by assumption)))))), box4 HB4.out (X34.out.trans (by with_reducible (repeat (first | exact Ext.rfl_ _ | assumption | refine Ext.drew ?_ | refine Ext.drewN ?_ _ | refine Ext.alloc ?_ _ | refine Ext.trans ?_ (by assumption)))))⟩) (fun hHeld => ?_)
      clear hK K
      (try simp only [Act.put, List.getElem_toArray, List.getElem_cons_zero, List.getElem_cons_succ, List.setIfInBounds_toArray, List.set_cons_zero, List.set_cons_succ])
      refine wpAnyH_take (i := 11) (oi := ({ dst := some 50, op := Go.Op.unOp Go.UnOp.not 4 (Go.Operand.tmp 49), type := 4, pos := "law.go:64", after := #[{ on := 10, ground := Go.Ground.data }, { on := 4, ground := Go.Ground.guard }], guard := some (4, false) } : Go.Oper)) (v := ?v10) rfl (by kernel_rfl) (by kernel_rfl) (by kernel_rfl) (fun _ _ _ h => h) (Or.inl ⟨by rfl, ?hy10⟩) (by assumption) ?rest10
      case hy10 => (intro w hSw; (try dsimp only at hSw); go_simp; (try with_reducible rfl))
      (try simp only [Act.put, List.getElem_toArray, List.getElem_cons_zero, List.getElem_cons_succ, List.setIfInBounds_toArray, List.set_cons_zero, List.set_cons_succ])
      refine wpAnyH_take (i := 12) (oi := ({ dst := some 51, op := Go.Op.pick (Go.Operand.tmp 43) (Go.Operand.const (Go.Value.bool true)) (Go.Operand.tmp 50), type := 4, pos := "law.go:64", after := #[{ on := 4, ground := Go.Ground.data }, { on := 11, ground := Go.Ground.data }], guard := none } : Go.Oper)) (v := ?v11) rfl (by kernel_rfl) (by kernel_rfl) (by kernel_rfl) (fun _ _ _ h => h) (Or.inl ⟨by rfl, ?hy11⟩) (by assumption) ?rest11
      case hy11 => (intro w hSw; (try dsimp only at hSw); go_simp; (try with_reducible rfl))
      (try simp only [Act.put, List.getElem_toArray, List.getElem_cons_zero, List.getElem_cons_succ, List.setIfInBounds_toArray, List.set_cons_zero, List.set_cons_succ])
      refine wpAnyH_done (by kernel_rfl) ?_ _
      all_goals
        obtain ⟨wo, hwo⟩ : ∃ wo : World, wo = wr := ⟨_, rfl⟩
        subst hwo
        have HX45 := Lib.hid (show Ext w4 w5 from (by with_reducible (repeat (first | exact Ext.rfl_ _ | assumption | refine Ext.drew ?_ | refine Ext.drewN ?_ _ | refine Ext.alloc ?_ _ | refine Ext.trans ?_ (by assumption)))))
        have X5 := Lib.hid (X34.out.trans HX45.out)
        have HBX := Lib.hid (X5.out.blk HB4.out)
        have HK5 := Lib.hid (OwnB.s ((HO4.out.ext X5.out).mono (base' := wo.heap.size) (by simp)))
        have HV5 := Lib.hid (OwnB.s ((HP4.out.ext X5.out).mono (base' := wo.heap.size) (by simp)))
        unfold B47 at b2 b4
        clear hw5
        go_wp2
        go_loopw [11] (fun i wq => ∃ j : Nat, i = .int .i64 j ∧ j ≤ n3 ∧ Hid (w5.grownBy wq (Value.slice A3 n3 c3).ownBlock) ∧ Hid (OwnS wq wo.heap.size (.slice A3 n3 c3)) ∧ Hid (OwnS wq wo.heap.size (.slice B3 m3 d3))) (fun i _ => n3 - (intOf i).toNat)
        case atStart => exact ⟨0, rfl, Nat.zero_le _, Lib.hid (World.grownBy.refl _ _), HK5, HV5⟩
        case round =>
          obtain ⟨j, rfl, hj, hg, ho, hp⟩ := hrel
          have hbx := blk_row HBX.out hg.out (fun e => by have := (HNK.out _ e).2; omega)
          have HBR := Lib.hid hbx
          obtain ⟨g0, g1, g2, g3, h0, h1, h2, h3⟩ := cells4 hbx
          clear hbx
          by_cases c1 : (j : Int) < (n3 : Int)
          · obtain ⟨q, b', cs, fr, rfl, hgb, hcell, hfro, _⟩ := ho.out.at_ (show j < n3 by omega)
            go_wp2
            go_roundw
            case rel =>
              exact ⟨j + 1, by go_num, by omega, Lib.hid (grownBy_set (show w5.grownBy wr (some q) from hg.out) j _), Lib.hid (ho.out.set 102 _ rfl), Lib.hid (hp.out.set 102 _ rfl)⟩
            case measure => simp [intOf]; omega
          · obtain ⟨wp, hwp⟩ : ∃ wp : World, wp = wr := ⟨_, rfl⟩
            subst hwp
            have HG := hg
            clear hg
            go_wp2
            go_loopw [12] (fun i wq => ∃ j : Nat, i = .int .i64 j ∧ j ≤ m3 ∧ Hid (wp.grownBy wq (Value.slice B3 m3 d3).ownBlock) ∧ Hid (OwnS wq wo.heap.size (.slice B3 m3 d3))) (fun i _ => m3 - (intOf i).toNat)
            case atStart => exact ⟨0, rfl, Nat.zero_le _, Lib.hid (World.grownBy.refl _ _), hp⟩
            case round =>
              clear g0 g1 g2 g3 h0 h1 h2 h3 c1 hj ho hp
              obtain ⟨j, rfl, hj, hg, hp⟩ := hrel
              have hbx := blk_row HBR.out hg.out (fun e => by have := (HNV.out _ e).2; omega)
              obtain ⟨g0, g1, g2, g3, h0, h1, h2, h3⟩ := cells4 hbx
              clear hbx
              by_cases c1 : (j : Int) < (m3 : Int)
              · obtain ⟨q, b', cs, fr, rfl, hgb, hcell, hfro, _⟩ := hp.out.at_ (show j < m3 by omega)
                go_wp2
                go_roundw
                case rel =>
                  exact ⟨j + 1, by go_num, by omega, Lib.hid (grownBy_set (show wp.grownBy wr (some q) from hg.out) j _), Lib.hid (hp.out.set 102 _ rfl)⟩
                case measure => simp [intOf]; omega
              · go_wp2
                go_roundw
                case rel =>
                  have hX : Kept (fun b => b < wo.heap.size ∨ w2.heap.size ≤ b) w5 wr := (Kept.grown HG.out (fun q e => by have := HNK.out q e; omega)).trans (Kept.grown hg.out (fun q e => by have := HNV.out q e; omega))
                  have hz2 := X2.out.size
                  have hz23 := HS3.out.lt
                  have hzb : w2b.heap.size ≤ w3.heap.size := by
                    have h1 := HS3.out
                    exact HKZ.out
                  have hnew : ∀ nd ∈ L', nd ∈ L ∨ (w2b.heap.size ≤ nd.b ∧ Hi w2b.heap.size nd.h.A nd.h.n ∧ Hi w2b.heap.size nd.h.B nd.h.m) := HN3.out
                  have hT' : ∀ i, skT g h L' i → skT g h L i ∨ w2b.heap.size ≤ i := by
                    rintro i (rfl | rfl | hm)
                    · exact .inl (.inl rfl)
                    · exact .inl (.inr (.inl rfl))
                    · obtain ⟨nd, hnm, rfl⟩ := List.mem_map.1 hm
                      rcases hnew nd hnm with h1 | h1
                      · exact .inl (.inr (.inr (List.mem_map_of_mem h1)))
                      · exact .inr h1.1
                  have h22b := H2B.out
                  refine ⟨k + 1, L', A4, n4, c4, by omega, by go_num, rfl, Lib.hid ⟨?_, ?_, ?_, ?_, ?_, hnc4, ?_⟩⟩
                  · refine (HS3.out.ext X5.out).kept2 hX (fun nd hnm => ?_) (fun i hi => ?_)
                    · rcases hnew nd hnm with h1 | ⟨_, h1, h2⟩
                      · have := HF.out.s.byt nd h1
                        exact ⟨fun hn a ha => .inl (this.1 hn a ha), fun hn a ha => .inl (this.2 hn a ha)⟩
                      · exact ⟨fun hn a ha => .inr (by have := h1 hn a ha; omega), fun hn a ha => .inr (by have := h2 hn a ha; omega)⟩
                    · rcases hT' i hi with h1 | h1
                      · exact .inl (HTL.out i h1)
                      · exact .inr (by omega)
                  · rw [HXT.out, putAll_snoc]; exact HL3.out
                  · have := HLE3.out; have := HF.out.len; omega
                  · intro i hi
                    rcases hT' i hi with h1 | h1
                    · exact HF.out.t i h1
                    · have := XB.out.size; omega
                  · rw [HXT.out, putAll_snoc]
                    refine ((HQ4.out.ext (show Ext w4 w5 from HX45.out)).kept hX (fun i _ hi => ?_)).mono (fun i hi hT => ?_)
                    · rcases hi with hi | hi
                      · exact .inl hi.2
                      · exact .inr (by omega)
                    · rcases hi with hi | hi
                      · rcases hT' i hT with h1 | h1
                        · exact hi.1 h1
                        · have := XRB.out.size; have := hi.2; omega
                      · have := hz23 i hT
                        have := HZ3.out
                        omega
                  · exact hX.ext_of (X3.out.trans X5.out) (fun i hi => .inl (by have := HF.out.ext.size; omega))
                case measure => simp [intOf]; omega
    · have hkn : k = n := by omega
      have HKN := Lib.hid hkn
      have hltI : ¬ (k : Int) < (n : Int) := by omega
      clear hkn
      go_wp2
      refine bodyPost_ret (v := .tuple #[.pointer (some ⟨g, 0, none⟩), .slice A' n' c', .bool true]) (by simp [results, Try.f14, go_sem]) rfl ?_
      exact ⟨g, h, L, A', n', c', rfl, by rw [← HKN.out]; exact HF.out⟩

end Go.Proofs.Ytddaagldelcbeaa
