/- The law's own rows of layer 6: they hold. Conditions: none. -/
import Derived.Test.YtddaagldelcbeaaSkT
import Derived.Test.YtddaagldelcbeaaSkX
import Derived.Test.YtddaagldelcbeaaRdRow
import Derived.Test.YtddaagldelcbeaaGoes
import Derived.Test.YtddaagldelcbeaaLit
import Derived.Test.YtddaagldelcbeaaLPut
namespace Go.Proofs.Ytddaagldelcbeaa
set_option linter.unusedSimpArgs false
set_option linter.unusedVariables false
open Go.RowKit Go.Shelf

theorem k70 : ([⟨[97], 7, 1, []⟩, ⟨[97], 5, 1, []⟩, ⟨[98], 1, 1, []⟩] : List Ent).dropWhile (fun y => decide (cmpK y.key [97, 0] < 0)) = [⟨[98], 1, 1, []⟩] := by decide
theorem newT {w2 : World} {g h base : Nat} {L L' : List Nd} (hn : NewNd w2 L L') (ht : ∀ b, skT g h L b → base ≤ b) (hb : base ≤ w2.heap.size) : ∀ b, skT g h L' b → base ≤ b := by
  rintro b (rfl | rfl | hm)
  · exact ht _ (.inl rfl)
  · exact ht _ (.inr (.inl rfl))
  · obtain ⟨nd, hnm, rfl⟩ := List.mem_map.1 hm
    rcases hn nd hnm with h1 | h1
    · exact ht _ (.inr (.inr (List.mem_map_of_mem h1)))
    · omega
def a5 : Ent := ⟨[97], 5, 1, []⟩
def a7 : Ent := ⟨[97], 7, 1, []⟩
def b1 : Ent := ⟨[98], 1, 1, []⟩
theorem k61 : insP [] a5 = ([a5], 0) := by decide
theorem k62 : insP [a5] a7 = ([a7, a5], 0) := by decide
theorem k63 : insP [a7, a5] a5 = ([a7, a5], 7) := by decide
theorem k64 : gK [a7, a5] [97] 6 = some a5 := by decide
theorem k65 : gK [a7, a5] [97] 4 = none := by decide
theorem k66 : insP [a7, a5] b1 = ([a7, a5, b1], 0) := by decide
theorem k67 : wB [a7, a5, b1] = 15 := by decide
theorem k68 : htH [97] 5 = 1 := by decide +kernel
theorem k69 : htH [] 1 = 1 := by decide +kernel

set_option maxRecDepth 100000 in
set_option maxHeartbeats 8000000 in
theorem known_any (w : World) : Calls Try.prog 10 #[] w fun e w' => e = .returned (.bool true) ∧ Ext w w' := by
  have hconv := fun (w : World) (cs : Array Value) (n c : Nat) => run_convert_lit (P := Try.prog) w 22 5 cs n c Try.underlying22 Try.underlying5
  have hconv2 : ∀ (w : World) (o : Obj) (cs : Array Value) (n c : Nat), (convert 22 22 (.slice (some ⟨w.heap.size + 1, 0, none⟩) n c)).run Try.prog ((w.alloc o).alloc (.cells cs 5)) = .ok (.slice (some ⟨w.heap.size + 1, 0, none⟩) n c) (litWorld (w.alloc o) 5 cs) := fun w o cs n c => by
    have := hconv (w.alloc o) cs n c
    rwa [World.size_alloc] at this
  go_enter Try.func10, Try.ntmps10
  go_wp2_with fail
  refine (new_any _).mono ?_
  rintro e w1 ⟨rfl, hs1, hw1⟩
  obtain ⟨g, hg⟩ : ∃ g, g = w.heap.size + 1 := ⟨_, rfl⟩
  obtain ⟨h, hh⟩ : ∃ h, h = w.heap.size := ⟨_, rfl⟩
  rw [← hg] at hs1 ⊢
  have hT1 : ∀ b, skT g h [] b → w.heap.size ≤ b := by
    rintro b (rfl | rfl | hb)
    · omega
    · omega
    · simp at hb
  have HS1 : Hid (SkL w1 g h []) := Lib.hid (by rw [hh]; exact hs1)
  have HT1 := Lib.hid hT1
  have X1 := Lib.hid hw1
  clear hs1 hT1 hg hh hw1
  go_wp2_with fail
  refine (lput_any [97] 5 _ (by decide)).mono ?_
  rintro e w2 ⟨u2, rfl, hu2, hw2⟩
  go_wp2_with fail
  refine (skput_any g h [] u2 a5 _ (HS1.out.ext hw2) hu2 (by simp)).mono ?_
  rintro e w3 ⟨rfl, L3, hL3, hs3, hk3, hn3, hl3⟩
  rw [show (insP (List.map Nd.x []) a5).2 = 0 from congrArg Prod.snd k61]
  have HM3 : Hid (L3.map Nd.x = [a5]) := Lib.hid (hL3.trans (congrArg Prod.fst k61))
  have HS3 := Lib.hid hs3
  have HT3 := Lib.hid (newT hn3 HT1.out (X1.out.trans hw2).size)
  have X3 := Lib.hid (hk3.ext_of (X1.out.trans hw2) (fun j hj hT => by have := HT1.out j hT; omega))
  clear hL3 hs3 hk3 hn3 hw2 hu2
  go_wp2_with fail
  refine (lput_any [97] 7 _ (by decide)).mono ?_
  rintro e w4 ⟨u4, rfl, hu4, hw4⟩
  go_wp2_with fail
  refine (skput_any g h L3 u4 a7 _ (HS3.out.ext hw4) hu4 (by simp at hl3; omega)).mono ?_
  rintro e w5 ⟨rfl, L5, hL5, hs5, hk5, hn5, hl5⟩
  rw [HM3.out] at hL5 ⊢
  rw [show (insP [a5] a7).2 = 0 from congrArg Prod.snd k62]
  have HM5 : Hid (L5.map Nd.x = [a7, a5]) := Lib.hid (hL5.trans (congrArg Prod.fst k62))
  have HS5 := Lib.hid hs5
  have HT5 := Lib.hid (newT hn5 HT3.out (X3.out.trans hw4).size)
  have X5 := Lib.hid (hk5.ext_of (X3.out.trans hw4) (fun j hj hT => by have := HT3.out j hT; omega))
  clear hL5 hs5 hk5 hn5 hw4 hu4
  go_wp2_with fail
  refine (lput_any [97] 5 _ (by decide)).mono ?_
  rintro e w6 ⟨u6, rfl, hu6, hw6⟩
  go_wp2_with fail
  refine (skput_any g h L5 u6 a5 _ (HS5.out.ext hw6) hu6 (by simp at hl3; omega)).mono ?_
  rintro e w7 ⟨rfl, L7, hL7, hs7, hk7, hn7, hl7⟩
  rw [HM5.out] at hL7 ⊢
  rw [show (insP [a7, a5] a5).2 = 7 from congrArg Prod.snd k63]
  have HM7 : Hid (L7.map Nd.x = [a7, a5]) := Lib.hid (hL7.trans (congrArg Prod.fst k63))
  have HS7 := Lib.hid hs7
  have HT7 := Lib.hid (newT hn7 HT5.out (X5.out.trans hw6).size)
  have X7 := Lib.hid (hk7.ext_of (X5.out.trans hw6) (fun j hj hT => by have := HT5.out j hT; omega))
  clear hL7 hs7 hk7 hn7 hw6 hu6
  go_wp2_with fail
  refine (skget_any g h L7 (some ⟨_, 0, none⟩) 1 1 [97] 6 _ (HS7.out.ext (by with_reducible (repeat (first | exact Ext.rfl_ _ | assumption | refine Ext.drew ?_ | refine Ext.drewN ?_ _ | refine Ext.alloc ?_ _ | refine Ext.trans ?_ (litWorld_ext _ _ _) | refine Ext.setCell ?_ (by first | (simp; done) | (simp; omega)) _ | refine Ext.trans ?_ (by assumption))))) (lit1e _ _ _ 97 (by simp)) (Nat.le_refl _) (by decide)).mono ?_
  rintro e w8 ⟨⟨v8, rfl, hf8⟩, hw8⟩
  rw [HM7.out, k64] at hf8 ⊢
  rw [show gN (some a5) = 0 from rfl]
  have HF8 : Hid (RdE w8 v8 a5) := Lib.hid hf8.rd
  obtain ⟨A8, n8, c8, B8, m8, d8, rfl, _⟩ := hf8.rd
  have X8 := Lib.hid (X7.out.trans (show Ext w7 w8 from (by with_reducible (repeat (first | exact Ext.rfl_ _ | assumption | refine Ext.drew ?_ | refine Ext.drewN ?_ _ | refine Ext.alloc ?_ _ | refine Ext.trans ?_ (litWorld_ext _ _ _) | refine Ext.setCell ?_ (by first | (simp; done) | (simp; omega)) _ | refine Ext.trans ?_ (by assumption))))))
  have X78 := Lib.hid (show Ext w7 w8 from (by with_reducible (repeat (first | exact Ext.rfl_ _ | assumption | refine Ext.drew ?_ | refine Ext.drewN ?_ _ | refine Ext.alloc ?_ _ | refine Ext.trans ?_ (litWorld_ext _ _ _) | refine Ext.setCell ?_ (by first | (simp; done) | (simp; omega)) _ | refine Ext.trans ?_ (by assumption)))))
  have HB8 := Lib.hid (blk1 w8 (.cells #[.slice A8 n8 c8, .int .i64 a5.seq, .int .i64 a5.kind, .slice B8 m8 d8] 40))
  clear hf8 hw8
  go_wp2_with fail
  refine (skget_any g h L7 (some ⟨_, 0, none⟩) 1 1 [97] 4 _ (HS7.out.ext (X78.out.trans (by with_reducible (repeat (first | exact Ext.rfl_ _ | assumption | refine Ext.drew ?_ | refine Ext.drewN ?_ _ | refine Ext.alloc ?_ _ | refine Ext.trans ?_ (litWorld_ext _ _ _) | refine Ext.setCell ?_ (by first | (simp; done) | (simp; omega)) _ | refine Ext.trans ?_ (by assumption)))))) (lit1e _ _ _ 97 (by simp)) (Nat.le_refl _) (by decide)).mono ?_
  rintro e w9 ⟨⟨v9, rfl, hf9⟩, hw9⟩
  rw [HM7.out, k65] at hf9 ⊢
  rw [show gN none = 6 from rfl]
  obtain ⟨A9, n9, c9, B9, m9, d9, rfl, _⟩ := hf9.rd
  have X89 := Lib.hid (show Ext (w8.alloc (.cells #[.slice A8 n8 c8, .int .i64 a5.seq, .int .i64 a5.kind, .slice B8 m8 d8] 40)) w9 from (by with_reducible (repeat (first | exact Ext.rfl_ _ | assumption | refine Ext.drew ?_ | refine Ext.drewN ?_ _ | refine Ext.alloc ?_ _ | refine Ext.trans ?_ (litWorld_ext _ _ _) | refine Ext.setCell ?_ (by first | (simp; done) | (simp; omega)) _ | refine Ext.trans ?_ (by assumption)))))
  clear hf9 hw9
  go_wp2_with fail
  refine (lput_any [98] 1 _ (by decide)).mono ?_
  rintro e wa ⟨ua, rfl, hua, hwa⟩
  have X8A := Lib.hid (X89.out.trans (show Ext w9 wa from (by with_reducible (repeat (first | exact Ext.rfl_ _ | assumption | refine Ext.drew ?_ | refine Ext.drewN ?_ _ | refine Ext.alloc ?_ _ | refine Ext.trans ?_ (litWorld_ext _ _ _) | refine Ext.setCell ?_ (by first | (simp; done) | (simp; omega)) _ | refine Ext.trans ?_ (by assumption))))))
  have X7A := Lib.hid (X78.out.trans ((Ext.alloc (Ext.rfl_ _) _).trans X8A.out))
  go_wp2_with fail
  refine (skput_any g h L7 ua b1 _ (HS7.out.ext X7A.out) hua (by have := congrArg List.length HM7.out; simp at this; omega)).mono ?_
  rintro e wc ⟨rfl, LC, hLC, hsC, hkC, hnC, hlC⟩
  rw [HM7.out] at hLC ⊢
  rw [show (insP [a7, a5] b1).2 = 0 from congrArg Prod.snd k66]
  have HMC : Hid (LC.map Nd.x = [a7, a5, b1]) := Lib.hid (hLC.trans (congrArg Prod.fst k66))
  have HSC := Lib.hid hsC
  have XC := Lib.hid (hkC.ext_of (X7.out.trans X7A.out) (fun j hj hT => by have := HT7.out j hT; omega))
  have hnb : ¬ skT g h L7 w8.heap.size := fun e => by have := HS7.out.lt _ e; have := X78.out.size; omega
  have HBC := Lib.hid ((hkC.block _ (by have := X8A.out.size; simp at this; omega) hnb).trans (X8A.out.blk HB8.out))
  have HVC := Lib.hid ((HF8.out.ext ((Ext.alloc (Ext.rfl_ _) _).trans X8A.out)).keptU hkC (HS7.out.ext X7A.out).noU)
  clear hLC hsC hkC hnC hlC hnb hua hwa
  go_wp2
  refine wp_region_held_drew (S := (fun w' => w'.cell? ⟨w8.heap.size, 0, none⟩ = some (.slice A8 n8 c8) ∧ w'.cell? ⟨w8.heap.size, 1, none⟩ = some (.int .i64 a5.seq) ∧ w'.cell? ⟨w8.heap.size, 2, none⟩ = some (.int .i64 a5.kind) ∧ w'.cell? ⟨w8.heap.size, 3, none⟩ = some (.slice B8 m8 d8) ∧ w'.frozen? ⟨w8.heap.size, 0, none⟩ = false ∧ w'.frozen? ⟨w8.heap.size, 1, none⟩ = false ∧ w'.frozen? ⟨w8.heap.size, 2, none⟩ = false ∧ w'.frozen? ⟨w8.heap.size, 3, none⟩ = false)) (by kernel_rfl) (by (try dsimp only); exact box4 HBC.out (by with_reducible (repeat (first | exact Ext.rfl_ _ | assumption | refine Ext.drew ?_ | refine Ext.drewN ?_ _ | refine Ext.alloc ?_ _ | refine Ext.trans ?_ (litWorld_ext _ _ _) | refine Ext.setCell ?_ (by first | (simp; done) | (simp; omega)) _ | refine Ext.trans ?_ (by assumption))))) (fun hHeld => ?_)
  refine wpAnyH_take (i := 0) (oi := ({ dst := some 39, op := Go.Op.move (Go.Operand.tmp 2), type := 41, pos := "law.go:31", after := #[], guard := none } : Go.Oper)) (v := ?v1) rfl (by kernel_rfl) (by kernel_rfl) (by kernel_rfl) (fun _ _ _ h => h) (Or.inl ⟨by rfl, ?hy1⟩) (by assumption) ?rest1
  case hy1 => (intro w hSw; (try dsimp only at hSw); go_simp; (try with_reducible rfl))
  (try simp only [Act.put, List.getElem_toArray, List.getElem_cons_zero, List.getElem_cons_succ, List.setIfInBounds_toArray, List.set_cons_zero, List.set_cons_succ])
  refine wpAnyH_take (i := 2) (oi := ({ dst := some 41, op := Go.Op.move (Go.Operand.tmp 3), type := 41, pos := "law.go:31", after := #[], guard := none } : Go.Oper)) (v := ?v2) rfl (by kernel_rfl) (by kernel_rfl) (by kernel_rfl) (fun _ _ _ h => h) (Or.inl ⟨by rfl, ?hy2⟩) (by assumption) ?rest2
  case hy2 => (intro w hSw; (try dsimp only at hSw); go_simp; (try with_reducible rfl))
  (try simp only [Act.put, List.getElem_toArray, List.getElem_cons_zero, List.getElem_cons_succ, List.setIfInBounds_toArray, List.set_cons_zero, List.set_cons_succ])
  refine wpAnyH_take (i := 5) (oi := ({ dst := some 44, op := Go.Op.move (Go.Operand.tmp 6), type := 41, pos := "law.go:31", after := #[], guard := none } : Go.Oper)) (v := ?v3) rfl (by kernel_rfl) (by kernel_rfl) (by kernel_rfl) (fun _ _ _ h => h) (Or.inl ⟨by rfl, ?hy3⟩) (by assumption) ?rest3
  case hy3 => (intro w hSw; (try dsimp only at hSw); go_simp; (try with_reducible rfl))
  (try simp only [Act.put, List.getElem_toArray, List.getElem_cons_zero, List.getElem_cons_succ, List.setIfInBounds_toArray, List.set_cons_zero, List.set_cons_succ])
  refine wpAnyH_take (i := 8) (oi := ({ dst := some 47, op := Go.Op.move (Go.Operand.tmp 9), type := 41, pos := "law.go:31", after := #[], guard := none } : Go.Oper)) (v := ?v4) rfl (by kernel_rfl) (by kernel_rfl) (by kernel_rfl) (fun _ _ _ h => h) (Or.inl ⟨by rfl, ?hy4⟩) (by assumption) ?rest4
  case hy4 => (intro w hSw; (try dsimp only at hSw); go_simp; (try with_reducible rfl))
  (try simp only [Act.put, List.getElem_toArray, List.getElem_cons_zero, List.getElem_cons_succ, List.setIfInBounds_toArray, List.set_cons_zero, List.set_cons_succ])
  refine wpAnyH_ready (rs := [1]) (by kernel_rfl) (by simp) ?_
  refine AllReadyH.cons (o := ({ dst := some 40, op := Go.Op.call { callee := Go.Callee.value (Go.Operand.func 23), args := #[Go.Operand.tmp 39], argTypes := #[41] }, type := 3, pos := "law.go:31", after := #[{ on := 0, ground := Go.Ground.data }], guard := none } : Go.Oper)) rfl (fun K hK => ?_) AllReadyH.nil
  go_simp; refine (num_any _ _).mono ?_; rintro e wn ⟨rfl, rfl⟩; (try (go_wp2_with fail))
  refine hK.out _ _ (by (try dsimp only); exact box4 HBC.out (by with_reducible (repeat (first | exact Ext.rfl_ _ | assumption | refine Ext.drew ?_ | refine Ext.drewN ?_ _ | refine Ext.alloc ?_ _ | refine Ext.trans ?_ (litWorld_ext _ _ _) | refine Ext.setCell ?_ (by first | (simp; done) | (simp; omega)) _ | refine Ext.trans ?_ (by assumption))))) (fun hHeld => ?_)
  clear hK K
  (try simp only [Act.put, List.getElem_toArray, List.getElem_cons_zero, List.getElem_cons_succ, List.setIfInBounds_toArray, List.set_cons_zero, List.set_cons_succ])
  refine wpAnyH_ready (rs := [3]) (by kernel_rfl) (by simp) ?_
  refine AllReadyH.cons (o := ({ dst := some 42, op := Go.Op.call { callee := Go.Callee.value (Go.Operand.func 23), args := #[Go.Operand.tmp 41], argTypes := #[41] }, type := 3, pos := "law.go:31", after := #[{ on := 2, ground := Go.Ground.data }, { on := 1, ground := Go.Ground.chain }], guard := none } : Go.Oper)) rfl (fun K hK => ?_) AllReadyH.nil
  go_simp; refine (num_any _ _).mono ?_; rintro e wn ⟨rfl, rfl⟩; (try (go_wp2_with fail))
  refine hK.out _ _ (by (try dsimp only); exact box4 HBC.out (by with_reducible (repeat (first | exact Ext.rfl_ _ | assumption | refine Ext.drew ?_ | refine Ext.drewN ?_ _ | refine Ext.alloc ?_ _ | refine Ext.trans ?_ (litWorld_ext _ _ _) | refine Ext.setCell ?_ (by first | (simp; done) | (simp; omega)) _ | refine Ext.trans ?_ (by assumption))))) (fun hHeld => ?_)
  clear hK K
  (try simp only [Act.put, List.getElem_toArray, List.getElem_cons_zero, List.getElem_cons_succ, List.setIfInBounds_toArray, List.set_cons_zero, List.set_cons_succ])
  refine wpAnyH_take (i := 4) (oi := ({ dst := some 43, op := Go.Op.binOp Go.BinOp.add 3 (Go.Operand.tmp 40) (Go.Operand.tmp 42) 3, type := 3, pos := "law.go:31", after := #[{ on := 1, ground := Go.Ground.data }, { on := 3, ground := Go.Ground.data }], guard := none } : Go.Oper)) (v := ?v5) rfl (by kernel_rfl) (by kernel_rfl) (by kernel_rfl) (fun _ _ _ h => h) (Or.inl ⟨by rfl, ?hy5⟩) (by assumption) ?rest5
  case hy5 => (intro w hSw; (try dsimp only at hSw); go_simp; (try with_reducible rfl))
  (try simp only [Act.put, List.getElem_toArray, List.getElem_cons_zero, List.getElem_cons_succ, List.setIfInBounds_toArray, List.set_cons_zero, List.set_cons_succ])
  refine wpAnyH_ready (rs := [6]) (by kernel_rfl) (by simp) ?_
  refine AllReadyH.cons (o := ({ dst := some 45, op := Go.Op.call { callee := Go.Callee.value (Go.Operand.func 23), args := #[Go.Operand.tmp 44], argTypes := #[41] }, type := 3, pos := "law.go:31", after := #[{ on := 5, ground := Go.Ground.data }, { on := 3, ground := Go.Ground.chain }], guard := none } : Go.Oper)) rfl (fun K hK => ?_) AllReadyH.nil
  go_simp; refine (num_any _ _).mono ?_; rintro e wn ⟨rfl, rfl⟩; (try (go_wp2_with fail))
  refine hK.out _ _ (by (try dsimp only); exact box4 HBC.out (by with_reducible (repeat (first | exact Ext.rfl_ _ | assumption | refine Ext.drew ?_ | refine Ext.drewN ?_ _ | refine Ext.alloc ?_ _ | refine Ext.trans ?_ (litWorld_ext _ _ _) | refine Ext.setCell ?_ (by first | (simp; done) | (simp; omega)) _ | refine Ext.trans ?_ (by assumption))))) (fun hHeld => ?_)
  clear hK K
  (try simp only [Act.put, List.getElem_toArray, List.getElem_cons_zero, List.getElem_cons_succ, List.setIfInBounds_toArray, List.set_cons_zero, List.set_cons_succ])
  refine wpAnyH_take (i := 7) (oi := ({ dst := some 46, op := Go.Op.binOp Go.BinOp.add 3 (Go.Operand.tmp 43) (Go.Operand.tmp 45) 3, type := 3, pos := "law.go:31", after := #[{ on := 4, ground := Go.Ground.data }, { on := 6, ground := Go.Ground.data }], guard := none } : Go.Oper)) (v := ?v6) rfl (by kernel_rfl) (by kernel_rfl) (by kernel_rfl) (fun _ _ _ h => h) (Or.inl ⟨by rfl, ?hy6⟩) (by assumption) ?rest6
  case hy6 => (intro w hSw; (try dsimp only at hSw); go_simp; (try with_reducible rfl))
  (try simp only [Act.put, List.getElem_toArray, List.getElem_cons_zero, List.getElem_cons_succ, List.setIfInBounds_toArray, List.set_cons_zero, List.set_cons_succ])
  refine wpAnyH_ready (rs := [9]) (by kernel_rfl) (by simp) ?_
  refine AllReadyH.cons (o := ({ dst := some 48, op := Go.Op.call { callee := Go.Callee.value (Go.Operand.func 23), args := #[Go.Operand.tmp 47], argTypes := #[41] }, type := 3, pos := "law.go:31", after := #[{ on := 8, ground := Go.Ground.data }, { on := 6, ground := Go.Ground.chain }], guard := none } : Go.Oper)) rfl (fun K hK => ?_) AllReadyH.nil
  go_simp; refine (num_any _ _).mono ?_; rintro e wn ⟨rfl, rfl⟩; (try (go_wp2_with fail))
  refine hK.out _ _ (by (try dsimp only); exact box4 HBC.out (by with_reducible (repeat (first | exact Ext.rfl_ _ | assumption | refine Ext.drew ?_ | refine Ext.drewN ?_ _ | refine Ext.alloc ?_ _ | refine Ext.trans ?_ (litWorld_ext _ _ _) | refine Ext.setCell ?_ (by first | (simp; done) | (simp; omega)) _ | refine Ext.trans ?_ (by assumption))))) (fun hHeld => ?_)
  clear hK K
  (try simp only [Act.put, List.getElem_toArray, List.getElem_cons_zero, List.getElem_cons_succ, List.setIfInBounds_toArray, List.set_cons_zero, List.set_cons_succ])
  refine wpAnyH_take (i := 10) (oi := ({ dst := some 49, op := Go.Op.binOp Go.BinOp.add 3 (Go.Operand.tmp 46) (Go.Operand.tmp 48) 3, type := 3, pos := "law.go:31", after := #[{ on := 7, ground := Go.Ground.data }, { on := 9, ground := Go.Ground.data }], guard := none } : Go.Oper)) (v := ?v7) rfl (by kernel_rfl) (by kernel_rfl) (by kernel_rfl) (fun _ _ _ h => h) (Or.inl ⟨by rfl, ?hy7⟩) (by assumption) ?rest7
  case hy7 => (intro w hSw; (try dsimp only at hSw); go_simp; (try with_reducible rfl))
  (try simp only [Act.put, List.getElem_toArray, List.getElem_cons_zero, List.getElem_cons_succ, List.setIfInBounds_toArray, List.set_cons_zero, List.set_cons_succ])
  refine wpAnyH_take (i := 11) (oi := ({ dst := some 50, op := Go.Op.binOp Go.BinOp.eql 3 (Go.Operand.tmp 49) (Go.Operand.const (Go.Value.int Go.IntKind.i64 0)) 3, type := 4, pos := "law.go:31", after := #[{ on := 10, ground := Go.Ground.data }], guard := none } : Go.Oper)) (v := ?v8) rfl (by kernel_rfl) (by kernel_rfl) (by kernel_rfl) (fun _ _ _ h => h) (Or.inl ⟨by rfl, ?hy8⟩) (by assumption) ?rest8
  case hy8 => (intro w hSw; (try dsimp only at hSw); go_simp; (try with_reducible rfl))
  (try simp only [Act.put, List.getElem_toArray, List.getElem_cons_zero, List.getElem_cons_succ, List.setIfInBounds_toArray, List.set_cons_zero, List.set_cons_succ])
  refine wpAnyH_take (i := 12) (oi := ({ dst := some 51, op := Go.Op.move (Go.Operand.tmp 50), type := 4, pos := "law.go:31", after := #[{ on := 11, ground := Go.Ground.data }, { on := 9, ground := Go.Ground.chain }], guard := none } : Go.Oper)) (v := ?v9) rfl (by kernel_rfl) (by kernel_rfl) (by kernel_rfl) (fun _ _ _ h => h) (Or.inl ⟨by rfl, ?hy9⟩) (by assumption) ?rest9
  case hy9 => (intro w hSw; (try dsimp only at hSw); go_simp; (try with_reducible rfl))
  (try simp only [Act.put, List.getElem_toArray, List.getElem_cons_zero, List.getElem_cons_succ, List.setIfInBounds_toArray, List.set_cons_zero, List.set_cons_succ])
  refine wpAnyH_take (i := 13) (oi := ({ dst := some 52, op := Go.Op.move (Go.Operand.tmp 4), type := 41, pos := "law.go:31", after := #[{ on := 12, ground := Go.Ground.guard }], guard := some (12, true) } : Go.Oper)) (v := ?v10) rfl (by kernel_rfl) (by kernel_rfl) (by kernel_rfl) (fun _ _ _ h => h) (Or.inl ⟨by rfl, ?hy10⟩) (by assumption) ?rest10
  case hy10 => (intro w hSw; (try dsimp only at hSw); go_simp; (try with_reducible rfl))
  (try simp only [Act.put, List.getElem_toArray, List.getElem_cons_zero, List.getElem_cons_succ, List.setIfInBounds_toArray, List.set_cons_zero, List.set_cons_succ])
  refine wpAnyH_ready (rs := [14]) (by kernel_rfl) (by simp) ?_
  refine AllReadyH.cons (o := ({ dst := some 53, op := Go.Op.call { callee := Go.Callee.value (Go.Operand.func 23), args := #[Go.Operand.tmp 52], argTypes := #[41] }, type := 3, pos := "law.go:31", after := #[{ on := 13, ground := Go.Ground.data }, { on := 12, ground := Go.Ground.chain }, { on := 12, ground := Go.Ground.guard }], guard := some (12, true) } : Go.Oper)) rfl (fun K hK => ?_) AllReadyH.nil
  go_simp; refine (num_any _ _).mono ?_; rintro e wn ⟨rfl, rfl⟩; (try (go_wp2_with fail))
  refine hK.out _ _ (by (try dsimp only); exact box4 HBC.out (by with_reducible (repeat (first | exact Ext.rfl_ _ | assumption | refine Ext.drew ?_ | refine Ext.drewN ?_ _ | refine Ext.alloc ?_ _ | refine Ext.trans ?_ (litWorld_ext _ _ _) | refine Ext.setCell ?_ (by first | (simp; done) | (simp; omega)) _ | refine Ext.trans ?_ (by assumption))))) (fun hHeld => ?_)
  clear hK K
  (try simp only [Act.put, List.getElem_toArray, List.getElem_cons_zero, List.getElem_cons_succ, List.setIfInBounds_toArray, List.set_cons_zero, List.set_cons_succ])
  refine wpAnyH_take (i := 15) (oi := ({ dst := some 54, op := Go.Op.binOp Go.BinOp.eql 3 (Go.Operand.tmp 53) (Go.Operand.const (Go.Value.int Go.IntKind.i64 7)) 3, type := 4, pos := "law.go:31", after := #[{ on := 14, ground := Go.Ground.data }, { on := 12, ground := Go.Ground.guard }], guard := some (12, true) } : Go.Oper)) (v := ?v11) rfl (by kernel_rfl) (by kernel_rfl) (by kernel_rfl) (fun _ _ _ h => h) (Or.inl ⟨by rfl, ?hy11⟩) (by assumption) ?rest11
  case hy11 => (intro w hSw; (try dsimp only at hSw); go_simp; (try with_reducible rfl))
  (try simp only [Act.put, List.getElem_toArray, List.getElem_cons_zero, List.getElem_cons_succ, List.setIfInBounds_toArray, List.set_cons_zero, List.set_cons_succ])
  refine wpAnyH_take (i := 16) (oi := ({ dst := some 55, op := Go.Op.pick (Go.Operand.tmp 51) (Go.Operand.tmp 54) (Go.Operand.const (Go.Value.bool false)), type := 4, pos := "law.go:31", after := #[{ on := 12, ground := Go.Ground.data }, { on := 15, ground := Go.Ground.data }], guard := none } : Go.Oper)) (v := ?v12) rfl (by kernel_rfl) (by kernel_rfl) (by kernel_rfl) (fun _ _ _ h => h) (Or.inl ⟨by rfl, ?hy12⟩) (by assumption) ?rest12
  case hy12 => (intro w hSw; (try dsimp only at hSw); go_simp; (try with_reducible rfl))
  (try simp only [Act.put, List.getElem_toArray, List.getElem_cons_zero, List.getElem_cons_succ, List.setIfInBounds_toArray, List.set_cons_zero, List.set_cons_succ])
  refine wpAnyH_take (i := 17) (oi := ({ dst := some 56, op := Go.Op.move (Go.Operand.tmp 55), type := 4, pos := "law.go:31", after := #[{ on := 16, ground := Go.Ground.data }, { on := 14, ground := Go.Ground.chain }], guard := none } : Go.Oper)) (v := ?v13) rfl (by kernel_rfl) (by kernel_rfl) (by kernel_rfl) (fun _ _ _ h => h) (Or.inl ⟨by rfl, ?hy13⟩) (by assumption) ?rest13
  case hy13 => (intro w hSw; (try dsimp only at hSw); go_simp; (try with_reducible rfl))
  (try simp only [Act.put, List.getElem_toArray, List.getElem_cons_zero, List.getElem_cons_succ, List.setIfInBounds_toArray, List.set_cons_zero, List.set_cons_succ])
  refine wpAnyH_take (i := 18) (oi := ({ dst := some 57, op := Go.Op.load 40 (Go.Operand.tmp 5), type := 40, pos := "law.go:31", after := #[{ on := 17, ground := Go.Ground.guard }], guard := some (17, true) } : Go.Oper)) (v := ?v14) rfl (by kernel_rfl) (by kernel_rfl) (by kernel_rfl) (fun _ _ _ h => h) (Or.inl ⟨by rfl, ?hy14⟩) (by assumption) ?rest14
  case hy14 => (intro w hSw; (try dsimp only at hSw); go_simp; (try with_reducible rfl))
  (try simp only [Act.put, List.getElem_toArray, List.getElem_cons_zero, List.getElem_cons_succ, List.setIfInBounds_toArray, List.set_cons_zero, List.set_cons_succ])
  refine wpAnyH_ready (rs := [19]) (by kernel_rfl) (by simp) ?_
  refine AllReadyH.cons (o := ({ dst := some 58, op := Go.Op.call { callee := Go.Callee.value (Go.Operand.func 35), args := #[Go.Operand.const (Go.Value.string { data := #[97] }), Go.Operand.const (Go.Value.int Go.IntKind.i64 5)], argTypes := #[9, 2] }, type := 40, pos := "law.go:31", after := #[{ on := 17, ground := Go.Ground.chain }, { on := 17, ground := Go.Ground.guard }], guard := some (17, true) } : Go.Oper)) rfl (fun K hK => ?_) AllReadyH.nil
  go_simp; refine (lput_any [97] 5 _ (by decide)).mono ?_; rintro e wd ⟨ud, rfl, hud, hwd⟩; (try (go_wp2_with fail))
  refine hK.out _ _ (by (try dsimp only); exact box4 HBC.out (by with_reducible (repeat (first | exact Ext.rfl_ _ | assumption | refine Ext.drew ?_ | refine Ext.drewN ?_ _ | refine Ext.alloc ?_ _ | refine Ext.trans ?_ (litWorld_ext _ _ _) | refine Ext.setCell ?_ (by first | (simp; done) | (simp; omega)) _ | refine Ext.trans ?_ (by assumption))))) (fun hHeld => ?_)
  clear hK K
  (try simp only [Act.put, List.getElem_toArray, List.getElem_cons_zero, List.getElem_cons_succ, List.setIfInBounds_toArray, List.set_cons_zero, List.set_cons_succ])
  refine wpAnyH_ready (rs := [20]) (by kernel_rfl) (by simp) ?_
  refine AllReadyH.cons (o := ({ dst := some 59, op := Go.Op.call { callee := Go.Callee.value (Go.Operand.func 22), args := #[Go.Operand.tmp 57, Go.Operand.tmp 58], argTypes := #[40, 40] }, type := 4, pos := "law.go:31", after := #[{ on := 18, ground := Go.Ground.data }, { on := 19, ground := Go.Ground.data }, { on := 19, ground := Go.Ground.chain }, { on := 17, ground := Go.Ground.guard }], guard := some (17, true) } : Go.Oper)) rfl (fun K hK => ?_) AllReadyH.nil
  go_simp; refine (rsame_self _ _ a5 _ ?_ ?_).mono ?_; exact HVC.out.ext (by with_reducible (repeat (first | exact Ext.rfl_ _ | assumption | refine Ext.drew ?_ | refine Ext.drewN ?_ _ | refine Ext.alloc ?_ _ | refine Ext.trans ?_ (litWorld_ext _ _ _) | refine Ext.setCell ?_ (by first | (simp; done) | (simp; omega)) _ | refine Ext.trans ?_ (by assumption)))); exact hud.ext (by with_reducible (repeat (first | exact Ext.rfl_ _ | assumption | refine Ext.drew ?_ | refine Ext.drewN ?_ _ | refine Ext.alloc ?_ _ | refine Ext.trans ?_ (litWorld_ext _ _ _) | refine Ext.setCell ?_ (by first | (simp; done) | (simp; omega)) _ | refine Ext.trans ?_ (by assumption)))); rintro e we ⟨rfl, hwe⟩; (try (go_wp2_with fail))
  refine hK.out _ _ (by (try dsimp only); exact box4 HBC.out (by with_reducible (repeat (first | exact Ext.rfl_ _ | assumption | refine Ext.drew ?_ | refine Ext.drewN ?_ _ | refine Ext.alloc ?_ _ | refine Ext.trans ?_ (litWorld_ext _ _ _) | refine Ext.setCell ?_ (by first | (simp; done) | (simp; omega)) _ | refine Ext.trans ?_ (by assumption))))) (fun hHeld => ?_)
  clear hK K
  (try simp only [Act.put, List.getElem_toArray, List.getElem_cons_zero, List.getElem_cons_succ, List.setIfInBounds_toArray, List.set_cons_zero, List.set_cons_succ])
  refine wpAnyH_take (i := 21) (oi := ({ dst := some 60, op := Go.Op.pick (Go.Operand.tmp 56) (Go.Operand.tmp 59) (Go.Operand.const (Go.Value.bool false)), type := 4, pos := "law.go:31", after := #[{ on := 17, ground := Go.Ground.data }, { on := 20, ground := Go.Ground.data }], guard := none } : Go.Oper)) (v := ?v15) rfl (by kernel_rfl) (by kernel_rfl) (by kernel_rfl) (fun _ _ _ h => h) (Or.inl ⟨by rfl, ?hy15⟩) (by assumption) ?rest15
  case hy15 => (intro w hSw; (try dsimp only at hSw); go_simp; (try with_reducible rfl))
  (try simp only [Act.put, List.getElem_toArray, List.getElem_cons_zero, List.getElem_cons_succ, List.setIfInBounds_toArray, List.set_cons_zero, List.set_cons_succ])
  refine wpAnyH_take (i := 22) (oi := ({ dst := some 61, op := Go.Op.move (Go.Operand.tmp 60), type := 4, pos := "law.go:31", after := #[{ on := 21, ground := Go.Ground.data }, { on := 20, ground := Go.Ground.chain }], guard := none } : Go.Oper)) (v := ?v16) rfl (by kernel_rfl) (by kernel_rfl) (by kernel_rfl) (fun _ _ _ h => h) (Or.inl ⟨by rfl, ?hy16⟩) (by assumption) ?rest16
  case hy16 => (intro w hSw; (try dsimp only at hSw); go_simp; (try with_reducible rfl))
  (try simp only [Act.put, List.getElem_toArray, List.getElem_cons_zero, List.getElem_cons_succ, List.setIfInBounds_toArray, List.set_cons_zero, List.set_cons_succ])
  refine wpAnyH_take (i := 23) (oi := ({ dst := some 62, op := Go.Op.move (Go.Operand.tmp 8), type := 41, pos := "law.go:31", after := #[{ on := 22, ground := Go.Ground.guard }], guard := some (22, true) } : Go.Oper)) (v := ?v17) rfl (by kernel_rfl) (by kernel_rfl) (by kernel_rfl) (fun _ _ _ h => h) (Or.inl ⟨by rfl, ?hy17⟩) (by assumption) ?rest17
  case hy17 => (intro w hSw; (try dsimp only at hSw); go_simp; (try with_reducible rfl))
  (try simp only [Act.put, List.getElem_toArray, List.getElem_cons_zero, List.getElem_cons_succ, List.setIfInBounds_toArray, List.set_cons_zero, List.set_cons_succ])
  refine wpAnyH_ready (rs := [24]) (by kernel_rfl) (by simp) ?_
  refine AllReadyH.cons (o := ({ dst := some 63, op := Go.Op.call { callee := Go.Callee.value (Go.Operand.func 23), args := #[Go.Operand.tmp 62], argTypes := #[41] }, type := 3, pos := "law.go:31", after := #[{ on := 23, ground := Go.Ground.data }, { on := 22, ground := Go.Ground.chain }, { on := 22, ground := Go.Ground.guard }], guard := some (22, true) } : Go.Oper)) rfl (fun K hK => ?_) AllReadyH.nil
  go_simp; refine (num_any _ _).mono ?_; rintro e wn ⟨rfl, rfl⟩; (try (go_wp2_with fail))
  refine hK.out _ _ (by (try dsimp only); exact box4 HBC.out (by with_reducible (repeat (first | exact Ext.rfl_ _ | assumption | refine Ext.drew ?_ | refine Ext.drewN ?_ _ | refine Ext.alloc ?_ _ | refine Ext.trans ?_ (litWorld_ext _ _ _) | refine Ext.setCell ?_ (by first | (simp; done) | (simp; omega)) _ | refine Ext.trans ?_ (by assumption))))) (fun hHeld => ?_)
  clear hK K
  (try simp only [Act.put, List.getElem_toArray, List.getElem_cons_zero, List.getElem_cons_succ, List.setIfInBounds_toArray, List.set_cons_zero, List.set_cons_succ])
  refine wpAnyH_take (i := 25) (oi := ({ dst := some 64, op := Go.Op.binOp Go.BinOp.eql 3 (Go.Operand.tmp 63) (Go.Operand.const (Go.Value.int Go.IntKind.i64 6)) 3, type := 4, pos := "law.go:31", after := #[{ on := 24, ground := Go.Ground.data }, { on := 22, ground := Go.Ground.guard }], guard := some (22, true) } : Go.Oper)) (v := ?v18) rfl (by kernel_rfl) (by kernel_rfl) (by kernel_rfl) (fun _ _ _ h => h) (Or.inl ⟨by rfl, ?hy18⟩) (by assumption) ?rest18
  case hy18 => (intro w hSw; (try dsimp only at hSw); go_simp; (try with_reducible rfl))
  (try simp only [Act.put, List.getElem_toArray, List.getElem_cons_zero, List.getElem_cons_succ, List.setIfInBounds_toArray, List.set_cons_zero, List.set_cons_succ])
  refine wpAnyH_take (i := 26) (oi := ({ dst := some 65, op := Go.Op.pick (Go.Operand.tmp 61) (Go.Operand.tmp 64) (Go.Operand.const (Go.Value.bool false)), type := 4, pos := "law.go:31", after := #[{ on := 22, ground := Go.Ground.data }, { on := 25, ground := Go.Ground.data }], guard := none } : Go.Oper)) (v := ?v19) rfl (by kernel_rfl) (by kernel_rfl) (by kernel_rfl) (fun _ _ _ h => h) (Or.inl ⟨by rfl, ?hy19⟩) (by assumption) ?rest19
  case hy19 => (intro w hSw; (try dsimp only at hSw); go_simp; (try with_reducible rfl))
  (try simp only [Act.put, List.getElem_toArray, List.getElem_cons_zero, List.getElem_cons_succ, List.setIfInBounds_toArray, List.set_cons_zero, List.set_cons_succ])
  refine wpAnyH_take (i := 27) (oi := ({ dst := some 66, op := Go.Op.move (Go.Operand.tmp 65), type := 4, pos := "law.go:31", after := #[{ on := 26, ground := Go.Ground.data }, { on := 24, ground := Go.Ground.chain }], guard := none } : Go.Oper)) (v := ?v20) rfl (by kernel_rfl) (by kernel_rfl) (by kernel_rfl) (fun _ _ _ h => h) (Or.inl ⟨by rfl, ?hy20⟩) (by assumption) ?rest20
  case hy20 => (intro w hSw; (try dsimp only at hSw); go_simp; (try with_reducible rfl))
  (try simp only [Act.put, List.getElem_toArray, List.getElem_cons_zero, List.getElem_cons_succ, List.setIfInBounds_toArray, List.set_cons_zero, List.set_cons_succ])
  refine wpAnyH_take (i := 28) (oi := ({ dst := some 67, op := Go.Op.move (Go.Operand.tmp 1), type := 28, pos := "law.go:31", after := #[{ on := 27, ground := Go.Ground.guard }], guard := some (27, true) } : Go.Oper)) (v := ?v21) rfl (by kernel_rfl) (by kernel_rfl) (by kernel_rfl) (fun _ _ _ h => h) (Or.inl ⟨by rfl, ?hy21⟩) (by assumption) ?rest21
  case hy21 => (intro w hSw; (try dsimp only at hSw); go_simp; (try with_reducible rfl))
  (try simp only [Act.put, List.getElem_toArray, List.getElem_cons_zero, List.getElem_cons_succ, List.setIfInBounds_toArray, List.set_cons_zero, List.set_cons_succ])
  refine wpAnyH_ready (rs := [29]) (by kernel_rfl) (by simp) ?_
  refine AllReadyH.cons (o := ({ dst := some 68, op := Go.Op.buildSlice 22 2 #[(0, Go.Operand.const (Go.Value.int Go.IntKind.u8 97)), (1, Go.Operand.const (Go.Value.int Go.IntKind.u8 0))], type := 22, pos := "law.go:31", after := #[{ on := 27, ground := Go.Ground.guard }], guard := some (27, true) } : Go.Oper)) rfl (fun K hK => ?_) AllReadyH.nil
  go_simp
  refine hK.out _ _ (by (try dsimp only); exact box4 HBC.out (by with_reducible (repeat (first | exact Ext.rfl_ _ | assumption | refine Ext.drew ?_ | refine Ext.drewN ?_ _ | refine Ext.alloc ?_ _ | refine Ext.trans ?_ (litWorld_ext _ _ _) | refine Ext.setCell ?_ (by first | (simp; done) | (simp; omega)) _ | refine Ext.trans ?_ (by assumption))))) (fun hHeld => ?_)
  clear hK K
  (try simp only [Act.put, List.getElem_toArray, List.getElem_cons_zero, List.getElem_cons_succ, List.setIfInBounds_toArray, List.set_cons_zero, List.set_cons_succ])
  refine wpAnyH_ready (rs := [30]) (by kernel_rfl) (by simp) ?_
  refine AllReadyH.cons (o := ({ dst := some 69, op := Go.Op.convert 22 22 (Go.Operand.tmp 68), type := 22, pos := "law.go:31", after := #[{ on := 29, ground := Go.Ground.data }, { on := 27, ground := Go.Ground.guard }], guard := some (27, true) } : Go.Oper)) rfl (fun K hK => ?_) AllReadyH.nil
  go_simp
  refine hK.out _ _ (by (try dsimp only); exact box4 HBC.out (by with_reducible (repeat (first | exact Ext.rfl_ _ | assumption | refine Ext.drew ?_ | refine Ext.drewN ?_ _ | refine Ext.alloc ?_ _ | refine Ext.trans ?_ (litWorld_ext _ _ _) | refine Ext.setCell ?_ (by first | (simp; done) | (simp; omega)) _ | refine Ext.trans ?_ (by assumption))))) (fun hHeld => ?_)
  clear hK K
  (try simp only [Act.put, List.getElem_toArray, List.getElem_cons_zero, List.getElem_cons_succ, List.setIfInBounds_toArray, List.set_cons_zero, List.set_cons_succ])
  refine wpAnyH_ready (rs := [31]) (by kernel_rfl) (by simp) ?_
  refine AllReadyH.cons (o := ({ dst := some 70, op := Go.Op.call { callee := Go.Callee.value (Go.Operand.func 19), args := #[Go.Operand.tmp 67, Go.Operand.tmp 69], argTypes := #[28, 22] }, type := 35, pos := "law.go:31", after := #[{ on := 28, ground := Go.Ground.data }, { on := 30, ground := Go.Ground.data }, { on := 27, ground := Go.Ground.chain }, { on := 27, ground := Go.Ground.guard }], guard := some (27, true) } : Go.Oper)) rfl (fun K hK => ?_) AllReadyH.nil
  go_simp; refine (from_any g (some ⟨we.heap.size, 0, none⟩) 2 2 _).mono ?_; rintro e wf ⟨rfl, hwf⟩; have xef : Ext we wf := (by rw [hwf]; exact (by with_reducible (repeat (first | exact Ext.rfl_ _ | assumption | refine Ext.drew ?_ | refine Ext.drewN ?_ _ | refine Ext.alloc ?_ _ | refine Ext.trans ?_ (litWorld_ext _ _ _) | refine Ext.setCell ?_ (by first | (simp; done) | (simp; omega)) _ | refine Ext.trans ?_ (by assumption))))); have HWF := Lib.hid hwf; clear hwf; (try (go_wp2_with fail))
  refine hK.out _ _ (by (try dsimp only); exact box4 HBC.out (by with_reducible (repeat (first | exact Ext.rfl_ _ | assumption | refine Ext.drew ?_ | refine Ext.drewN ?_ _ | refine Ext.alloc ?_ _ | refine Ext.trans ?_ (litWorld_ext _ _ _) | refine Ext.setCell ?_ (by first | (simp; done) | (simp; omega)) _ | refine Ext.trans ?_ (by assumption))))) (fun hHeld => ?_)
  clear hK K
  (try simp only [Act.put, List.getElem_toArray, List.getElem_cons_zero, List.getElem_cons_succ, List.setIfInBounds_toArray, List.set_cons_zero, List.set_cons_succ])
  refine wpAnyH_ready (rs := [32]) (by kernel_rfl) (by simp) ?_
  refine AllReadyH.cons (o := ({ dst := some 71, op := Go.Op.call { callee := Go.Callee.value (Go.Operand.func 35), args := #[Go.Operand.const (Go.Value.string { data := #[98] }), Go.Operand.const (Go.Value.int Go.IntKind.i64 1)], argTypes := #[9, 2] }, type := 40, pos := "law.go:31", after := #[{ on := 31, ground := Go.Ground.chain }, { on := 27, ground := Go.Ground.guard }], guard := some (27, true) } : Go.Oper)) rfl (fun K hK => ?_) AllReadyH.nil
  go_simp; refine (lput_any [98] 1 _ (by decide)).mono ?_; rintro e wg ⟨ug, rfl, hug, hwg⟩; obtain ⟨Ag, ng, cg, Bg, mg, dg, rfl, _⟩ := id hug; (try (go_wp2_with fail))
  refine hK.out _ _ (by (try dsimp only); exact box4 HBC.out (by with_reducible (repeat (first | exact Ext.rfl_ _ | assumption | refine Ext.drew ?_ | refine Ext.drewN ?_ _ | refine Ext.alloc ?_ _ | refine Ext.trans ?_ (litWorld_ext _ _ _) | refine Ext.setCell ?_ (by first | (simp; done) | (simp; omega)) _ | refine Ext.trans ?_ (by assumption))))) (fun hHeld => ?_)
  clear hK K
  (try simp only [Act.put, List.getElem_toArray, List.getElem_cons_zero, List.getElem_cons_succ, List.setIfInBounds_toArray, List.set_cons_zero, List.set_cons_succ])
  refine wpAnyH_ready (rs := [33]) (by kernel_rfl) (by simp) ?_
  refine AllReadyH.cons (o := ({ dst := some 72, op := Go.Op.buildSlice 26 1 #[(0, Go.Operand.tmp 71)], type := 26, pos := "law.go:31", after := #[{ on := 32, ground := Go.Ground.data }, { on := 27, ground := Go.Ground.guard }], guard := some (27, true) } : Go.Oper)) rfl (fun K hK => ?_) AllReadyH.nil
  go_simp
  refine hK.out _ _ (by (try dsimp only); exact box4 HBC.out (by with_reducible (repeat (first | exact Ext.rfl_ _ | assumption | refine Ext.drew ?_ | refine Ext.drewN ?_ _ | refine Ext.alloc ?_ _ | refine Ext.trans ?_ (litWorld_ext _ _ _) | refine Ext.setCell ?_ (by first | (simp; done) | (simp; omega)) _ | refine Ext.trans ?_ (by assumption))))) (fun hHeld => ?_)
  clear hK K
  (try simp only [Act.put, List.getElem_toArray, List.getElem_cons_zero, List.getElem_cons_succ, List.setIfInBounds_toArray, List.set_cons_zero, List.set_cons_succ])
  refine wpAnyH_ready (rs := [34]) (by kernel_rfl) (by simp) ?_
  refine AllReadyH.cons (o := ({ dst := some 73, op := Go.Op.call { callee := Go.Callee.value (Go.Operand.func 18), args := #[Go.Operand.tmp 70, Go.Operand.tmp 72, Go.Operand.const (Go.Value.int Go.IntKind.i64 0)], argTypes := #[35, 26, 3] }, type := 4, pos := "law.go:31", after := #[{ on := 31, ground := Go.Ground.data }, { on := 33, ground := Go.Ground.data }, { on := 32, ground := Go.Ground.chain }, { on := 27, ground := Go.Ground.guard }], guard := some (27, true) } : Go.Oper)) rfl (fun K hK => ?_) AllReadyH.nil
  go_simp; refine (goesFrom_any g h LC (some ⟨we.heap.size, 0, none⟩) 2 2 [97, 0] (some ⟨wg.heap.size, 0, none⟩) 1 1 0 (litWorld we 5 #[.int .u8 97, .int .u8 0]) (wg.alloc (.cells #[.slice Ag ng cg, .int .i64 1, .int .i64 1, .slice Bg mg dg] 40)) (HSC.out.ext (by with_reducible (repeat (first | exact Ext.rfl_ _ | assumption | refine Ext.drew ?_ | refine Ext.drewN ?_ _ | refine Ext.alloc ?_ _ | refine Ext.trans ?_ (litWorld_ext _ _ _) | refine Ext.setCell ?_ (by first | (simp; done) | (simp; omega)) _ | refine Ext.trans ?_ (by assumption))))) ?_ ?_ ?_).mono ?_; exact ((show Rd (litWorld we 5 #[.int .u8 97, .int .u8 0]) (some ⟨we.heap.size, 0, none⟩) 2 [97, 0] from lit2 we 5 97 0).ext (show Ext (litWorld we 5 #[.int .u8 97, .int .u8 0]) wf by rw [HWF.out]; exact (by with_reducible (repeat (first | exact Ext.rfl_ _ | assumption | refine Ext.drew ?_ | refine Ext.drewN ?_ _ | refine Ext.alloc ?_ _ | refine Ext.trans ?_ (by assumption)))))).ext (by with_reducible (repeat (first | exact Ext.rfl_ _ | assumption | refine Ext.drew ?_ | refine Ext.drewN ?_ _ | refine Ext.alloc ?_ _ | refine Ext.trans ?_ (litWorld_ext _ _ _) | refine Ext.setCell ?_ (by first | (simp; done) | (simp; omega)) _ | refine Ext.trans ?_ (by assumption)))); exact Ext.trans (show Ext _ wf by rw [HWF.out]; exact Ext.rfl_ _) (by with_reducible (repeat (first | exact Ext.rfl_ _ | assumption | refine Ext.drew ?_ | refine Ext.drewN ?_ _ | refine Ext.alloc ?_ _ | refine Ext.trans ?_ (litWorld_ext _ _ _) | refine Ext.setCell ?_ (by first | (simp; done) | (simp; omega)) _ | refine Ext.trans ?_ (by assumption)))); rw [HMC.out]; exact (show RdL (wg.alloc (.cells #[.slice Ag ng cg, .int .i64 1, .int .i64 1, .slice Bg mg dg] 40)) (some ⟨wg.heap.size, 0, none⟩) 1 (([a7, a5, b1] : List Ent).dropWhile fun y => decide (cmpK y.key [97, 0] < 0)) from (show ([a7, a5, b1] : List Ent).dropWhile (fun y => decide (cmpK y.key [97, 0] < 0)) = [b1] from k70).symm ▸ (rdl_row (w := wg) 40 (hs := [⟨Ag, ng, cg, Bg, mg, dg⟩]) (xs := [b1]) rfl (by decide) (by intro k i1 i2; obtain rfl : k = 0 := (by simp at i2; exact i2); exact hug))); rintro e wh ⟨rfl, hwh⟩; (try (go_wp2_with fail))
  refine hK.out _ _ (by (try dsimp only); exact box4 HBC.out (by with_reducible (repeat (first | exact Ext.rfl_ _ | assumption | refine Ext.drew ?_ | refine Ext.drewN ?_ _ | refine Ext.alloc ?_ _ | refine Ext.trans ?_ (litWorld_ext _ _ _) | refine Ext.setCell ?_ (by first | (simp; done) | (simp; omega)) _ | refine Ext.trans ?_ (by assumption))))) (fun hHeld => ?_)
  clear hK K
  (try simp only [Act.put, List.getElem_toArray, List.getElem_cons_zero, List.getElem_cons_succ, List.setIfInBounds_toArray, List.set_cons_zero, List.set_cons_succ])
  refine wpAnyH_take (i := 35) (oi := ({ dst := some 74, op := Go.Op.pick (Go.Operand.tmp 66) (Go.Operand.tmp 73) (Go.Operand.const (Go.Value.bool false)), type := 4, pos := "law.go:31", after := #[{ on := 27, ground := Go.Ground.data }, { on := 34, ground := Go.Ground.data }], guard := none } : Go.Oper)) (v := ?v22) rfl (by kernel_rfl) (by kernel_rfl) (by kernel_rfl) (fun _ _ _ h => h) (Or.inl ⟨by rfl, ?hy22⟩) (by assumption) ?rest22
  case hy22 => (intro w hSw; (try dsimp only at hSw); go_simp; (try with_reducible rfl))
  (try simp only [Act.put, List.getElem_toArray, List.getElem_cons_zero, List.getElem_cons_succ, List.setIfInBounds_toArray, List.set_cons_zero, List.set_cons_succ])
  refine wpAnyH_take (i := 36) (oi := ({ dst := some 75, op := Go.Op.move (Go.Operand.tmp 74), type := 4, pos := "law.go:31", after := #[{ on := 35, ground := Go.Ground.data }, { on := 34, ground := Go.Ground.chain }], guard := none } : Go.Oper)) (v := ?v23) rfl (by kernel_rfl) (by kernel_rfl) (by kernel_rfl) (fun _ _ _ h => h) (Or.inl ⟨by rfl, ?hy23⟩) (by assumption) ?rest23
  case hy23 => (intro w hSw; (try dsimp only at hSw); go_simp; (try with_reducible rfl))
  (try simp only [Act.put, List.getElem_toArray, List.getElem_cons_zero, List.getElem_cons_succ, List.setIfInBounds_toArray, List.set_cons_zero, List.set_cons_succ])
  refine wpAnyH_take (i := 37) (oi := ({ dst := some 76, op := Go.Op.move (Go.Operand.tmp 1), type := 28, pos := "law.go:31", after := #[{ on := 36, ground := Go.Ground.guard }], guard := some (36, true) } : Go.Oper)) (v := ?v24) rfl (by kernel_rfl) (by kernel_rfl) (by kernel_rfl) (fun _ _ _ h => h) (Or.inl ⟨by rfl, ?hy24⟩) (by assumption) ?rest24
  case hy24 => (intro w hSw; (try dsimp only at hSw); go_simp; (try with_reducible rfl))
  (try simp only [Act.put, List.getElem_toArray, List.getElem_cons_zero, List.getElem_cons_succ, List.setIfInBounds_toArray, List.set_cons_zero, List.set_cons_succ])
  refine wpAnyH_ready (rs := [38]) (by kernel_rfl) (by simp) ?_
  refine AllReadyH.cons (o := ({ dst := some 77, op := Go.Op.call { callee := Go.Callee.value (Go.Operand.func 15), args := #[Go.Operand.tmp 76], argTypes := #[28] }, type := 3, pos := "law.go:31", after := #[{ on := 37, ground := Go.Ground.data }, { on := 36, ground := Go.Ground.chain }, { on := 36, ground := Go.Ground.guard }], guard := some (36, true) } : Go.Oper)) rfl (fun K hK => ?_) AllReadyH.nil
  go_simp; refine (len_any g h LC _ (HSC.out.ext (by with_reducible (repeat (first | exact Ext.rfl_ _ | assumption | refine Ext.drew ?_ | refine Ext.drewN ?_ _ | refine Ext.alloc ?_ _ | refine Ext.trans ?_ (litWorld_ext _ _ _) | refine Ext.setCell ?_ (by first | (simp; done) | (simp; omega)) _ | refine Ext.trans ?_ (by assumption)))))).mono ?_; rintro e wi ⟨rfl, rfl⟩; rw [show LC.length = 3 from by have := congrArg List.length HMC.out; simpa using this]; (try (go_wp2_with fail))
  refine hK.out _ _ (by (try dsimp only); exact box4 HBC.out (by with_reducible (repeat (first | exact Ext.rfl_ _ | assumption | refine Ext.drew ?_ | refine Ext.drewN ?_ _ | refine Ext.alloc ?_ _ | refine Ext.trans ?_ (litWorld_ext _ _ _) | refine Ext.setCell ?_ (by first | (simp; done) | (simp; omega)) _ | refine Ext.trans ?_ (by assumption))))) (fun hHeld => ?_)
  clear hK K
  (try simp only [Act.put, List.getElem_toArray, List.getElem_cons_zero, List.getElem_cons_succ, List.setIfInBounds_toArray, List.set_cons_zero, List.set_cons_succ])
  refine wpAnyH_take (i := 39) (oi := ({ dst := some 78, op := Go.Op.binOp Go.BinOp.eql 3 (Go.Operand.tmp 77) (Go.Operand.const (Go.Value.int Go.IntKind.i64 3)) 3, type := 4, pos := "law.go:31", after := #[{ on := 38, ground := Go.Ground.data }, { on := 36, ground := Go.Ground.guard }], guard := some (36, true) } : Go.Oper)) (v := ?v25) rfl (by kernel_rfl) (by kernel_rfl) (by kernel_rfl) (fun _ _ _ h => h) (Or.inl ⟨by rfl, ?hy25⟩) (by assumption) ?rest25
  case hy25 => (intro w hSw; (try dsimp only at hSw); go_simp; (try with_reducible rfl))
  (try simp only [Act.put, List.getElem_toArray, List.getElem_cons_zero, List.getElem_cons_succ, List.setIfInBounds_toArray, List.set_cons_zero, List.set_cons_succ])
  refine wpAnyH_take (i := 40) (oi := ({ dst := some 79, op := Go.Op.pick (Go.Operand.tmp 75) (Go.Operand.tmp 78) (Go.Operand.const (Go.Value.bool false)), type := 4, pos := "law.go:31", after := #[{ on := 36, ground := Go.Ground.data }, { on := 39, ground := Go.Ground.data }], guard := none } : Go.Oper)) (v := ?v26) rfl (by kernel_rfl) (by kernel_rfl) (by kernel_rfl) (fun _ _ _ h => h) (Or.inl ⟨by rfl, ?hy26⟩) (by assumption) ?rest26
  case hy26 => (intro w hSw; (try dsimp only at hSw); go_simp; (try with_reducible rfl))
  (try simp only [Act.put, List.getElem_toArray, List.getElem_cons_zero, List.getElem_cons_succ, List.setIfInBounds_toArray, List.set_cons_zero, List.set_cons_succ])
  refine wpAnyH_take (i := 41) (oi := ({ dst := some 80, op := Go.Op.move (Go.Operand.tmp 79), type := 4, pos := "law.go:31", after := #[{ on := 40, ground := Go.Ground.data }, { on := 38, ground := Go.Ground.chain }], guard := none } : Go.Oper)) (v := ?v27) rfl (by kernel_rfl) (by kernel_rfl) (by kernel_rfl) (fun _ _ _ h => h) (Or.inl ⟨by rfl, ?hy27⟩) (by assumption) ?rest27
  case hy27 => (intro w hSw; (try dsimp only at hSw); go_simp; (try with_reducible rfl))
  (try simp only [Act.put, List.getElem_toArray, List.getElem_cons_zero, List.getElem_cons_succ, List.setIfInBounds_toArray, List.set_cons_zero, List.set_cons_succ])
  refine wpAnyH_take (i := 42) (oi := ({ dst := some 81, op := Go.Op.move (Go.Operand.tmp 1), type := 28, pos := "law.go:31", after := #[{ on := 41, ground := Go.Ground.guard }], guard := some (41, true) } : Go.Oper)) (v := ?v28) rfl (by kernel_rfl) (by kernel_rfl) (by kernel_rfl) (fun _ _ _ h => h) (Or.inl ⟨by rfl, ?hy28⟩) (by assumption) ?rest28
  case hy28 => (intro w hSw; (try dsimp only at hSw); go_simp; (try with_reducible rfl))
  (try simp only [Act.put, List.getElem_toArray, List.getElem_cons_zero, List.getElem_cons_succ, List.setIfInBounds_toArray, List.set_cons_zero, List.set_cons_succ])
  refine wpAnyH_ready (rs := [43]) (by kernel_rfl) (by simp) ?_
  refine AllReadyH.cons (o := ({ dst := some 82, op := Go.Op.call { callee := Go.Callee.value (Go.Operand.func 16), args := #[Go.Operand.tmp 81], argTypes := #[28] }, type := 3, pos := "law.go:31", after := #[{ on := 42, ground := Go.Ground.data }, { on := 41, ground := Go.Ground.chain }, { on := 41, ground := Go.Ground.guard }], guard := some (41, true) } : Go.Oper)) rfl (fun K hK => ?_) AllReadyH.nil
  go_simp; refine (skbytes_any g h LC _ (HSC.out.ext (by with_reducible (repeat (first | exact Ext.rfl_ _ | assumption | refine Ext.drew ?_ | refine Ext.drewN ?_ _ | refine Ext.alloc ?_ _ | refine Ext.trans ?_ (litWorld_ext _ _ _) | refine Ext.setCell ?_ (by first | (simp; done) | (simp; omega)) _ | refine Ext.trans ?_ (by assumption)))))).mono ?_; rintro e wi ⟨rfl, rfl⟩; rw [HMC.out, k67]; (try (go_wp2_with fail))
  refine hK.out _ _ (by (try dsimp only); exact box4 HBC.out (by with_reducible (repeat (first | exact Ext.rfl_ _ | assumption | refine Ext.drew ?_ | refine Ext.drewN ?_ _ | refine Ext.alloc ?_ _ | refine Ext.trans ?_ (litWorld_ext _ _ _) | refine Ext.setCell ?_ (by first | (simp; done) | (simp; omega)) _ | refine Ext.trans ?_ (by assumption))))) (fun hHeld => ?_)
  clear hK K
  (try simp only [Act.put, List.getElem_toArray, List.getElem_cons_zero, List.getElem_cons_succ, List.setIfInBounds_toArray, List.set_cons_zero, List.set_cons_succ])
  refine wpAnyH_take (i := 44) (oi := ({ dst := some 83, op := Go.Op.binOp Go.BinOp.eql 3 (Go.Operand.tmp 82) (Go.Operand.const (Go.Value.int Go.IntKind.i64 15)) 3, type := 4, pos := "law.go:31", after := #[{ on := 43, ground := Go.Ground.data }, { on := 41, ground := Go.Ground.guard }], guard := some (41, true) } : Go.Oper)) (v := ?v29) rfl (by kernel_rfl) (by kernel_rfl) (by kernel_rfl) (fun _ _ _ h => h) (Or.inl ⟨by rfl, ?hy29⟩) (by assumption) ?rest29
  case hy29 => (intro w hSw; (try dsimp only at hSw); go_simp; (try with_reducible rfl))
  (try simp only [Act.put, List.getElem_toArray, List.getElem_cons_zero, List.getElem_cons_succ, List.setIfInBounds_toArray, List.set_cons_zero, List.set_cons_succ])
  refine wpAnyH_take (i := 45) (oi := ({ dst := some 84, op := Go.Op.pick (Go.Operand.tmp 80) (Go.Operand.tmp 83) (Go.Operand.const (Go.Value.bool false)), type := 4, pos := "law.go:31", after := #[{ on := 41, ground := Go.Ground.data }, { on := 44, ground := Go.Ground.data }], guard := none } : Go.Oper)) (v := ?v30) rfl (by kernel_rfl) (by kernel_rfl) (by kernel_rfl) (fun _ _ _ h => h) (Or.inl ⟨by rfl, ?hy30⟩) (by assumption) ?rest30
  case hy30 => (intro w hSw; (try dsimp only at hSw); go_simp; (try with_reducible rfl))
  (try simp only [Act.put, List.getElem_toArray, List.getElem_cons_zero, List.getElem_cons_succ, List.setIfInBounds_toArray, List.set_cons_zero, List.set_cons_succ])
  refine wpAnyH_take (i := 46) (oi := ({ dst := some 85, op := Go.Op.move (Go.Operand.tmp 84), type := 4, pos := "law.go:31", after := #[{ on := 45, ground := Go.Ground.data }, { on := 43, ground := Go.Ground.chain }], guard := none } : Go.Oper)) (v := ?v31) rfl (by kernel_rfl) (by kernel_rfl) (by kernel_rfl) (fun _ _ _ h => h) (Or.inl ⟨by rfl, ?hy31⟩) (by assumption) ?rest31
  case hy31 => (intro w hSw; (try dsimp only at hSw); go_simp; (try with_reducible rfl))
  (try simp only [Act.put, List.getElem_toArray, List.getElem_cons_zero, List.getElem_cons_succ, List.setIfInBounds_toArray, List.set_cons_zero, List.set_cons_succ])
  refine wpAnyH_ready (rs := [47]) (by kernel_rfl) (by simp) ?_
  refine AllReadyH.cons (o := ({ dst := some 86, op := Go.Op.buildSlice 22 1 #[(0, Go.Operand.const (Go.Value.int Go.IntKind.u8 97))], type := 22, pos := "law.go:31", after := #[{ on := 46, ground := Go.Ground.guard }], guard := some (46, true) } : Go.Oper)) rfl (fun K hK => ?_) AllReadyH.nil
  go_simp
  refine hK.out _ _ (by (try dsimp only); exact box4 HBC.out (by with_reducible (repeat (first | exact Ext.rfl_ _ | assumption | refine Ext.drew ?_ | refine Ext.drewN ?_ _ | refine Ext.alloc ?_ _ | refine Ext.trans ?_ (litWorld_ext _ _ _) | refine Ext.setCell ?_ (by first | (simp; done) | (simp; omega)) _ | refine Ext.trans ?_ (by assumption))))) (fun hHeld => ?_)
  clear hK K
  (try simp only [Act.put, List.getElem_toArray, List.getElem_cons_zero, List.getElem_cons_succ, List.setIfInBounds_toArray, List.set_cons_zero, List.set_cons_succ])
  refine wpAnyH_ready (rs := [48]) (by kernel_rfl) (by simp) ?_
  refine AllReadyH.cons (o := ({ dst := some 87, op := Go.Op.convert 22 22 (Go.Operand.tmp 86), type := 22, pos := "law.go:31", after := #[{ on := 47, ground := Go.Ground.data }, { on := 46, ground := Go.Ground.guard }], guard := some (46, true) } : Go.Oper)) rfl (fun K hK => ?_) AllReadyH.nil
  go_simp
  refine hK.out _ _ (by (try dsimp only); exact box4 HBC.out (by with_reducible (repeat (first | exact Ext.rfl_ _ | assumption | refine Ext.drew ?_ | refine Ext.drewN ?_ _ | refine Ext.alloc ?_ _ | refine Ext.trans ?_ (litWorld_ext _ _ _) | refine Ext.setCell ?_ (by first | (simp; done) | (simp; omega)) _ | refine Ext.trans ?_ (by assumption))))) (fun hHeld => ?_)
  clear hK K
  (try simp only [Act.put, List.getElem_toArray, List.getElem_cons_zero, List.getElem_cons_succ, List.setIfInBounds_toArray, List.set_cons_zero, List.set_cons_succ])
  refine wpAnyH_ready (rs := [49]) (by kernel_rfl) (by simp) ?_
  refine AllReadyH.cons (o := ({ dst := some 88, op := Go.Op.call { callee := Go.Callee.value (Go.Operand.func 11), args := #[Go.Operand.tmp 87, Go.Operand.const (Go.Value.int Go.IntKind.i64 5)], argTypes := #[22, 2] }, type := 3, pos := "law.go:31", after := #[{ on := 48, ground := Go.Ground.data }, { on := 46, ground := Go.Ground.chain }, { on := 46, ground := Go.Ground.guard }], guard := some (46, true) } : Go.Oper)) rfl (fun K hK => ?_) AllReadyH.nil
  go_simp; refine (height_any (some ⟨_, 0, none⟩) 1 1 [97] 5 _ (lit1e _ _ _ 97 (by simp)) (by decide)).mono ?_; rintro e wj ⟨rfl, hwj⟩; rw [k68]; (try (go_wp2_with fail))
  refine hK.out _ _ (by (try dsimp only); exact box4 HBC.out (by with_reducible (repeat (first | exact Ext.rfl_ _ | assumption | refine Ext.drew ?_ | refine Ext.drewN ?_ _ | refine Ext.alloc ?_ _ | refine Ext.trans ?_ (litWorld_ext _ _ _) | refine Ext.setCell ?_ (by first | (simp; done) | (simp; omega)) _ | refine Ext.trans ?_ (by assumption))))) (fun hHeld => ?_)
  clear hK K
  (try simp only [Act.put, List.getElem_toArray, List.getElem_cons_zero, List.getElem_cons_succ, List.setIfInBounds_toArray, List.set_cons_zero, List.set_cons_succ])
  refine wpAnyH_take (i := 50) (oi := ({ dst := some 89, op := Go.Op.binOp Go.BinOp.eql 3 (Go.Operand.tmp 88) (Go.Operand.const (Go.Value.int Go.IntKind.i64 1)) 3, type := 4, pos := "law.go:31", after := #[{ on := 49, ground := Go.Ground.data }, { on := 46, ground := Go.Ground.guard }], guard := some (46, true) } : Go.Oper)) (v := ?v32) rfl (by kernel_rfl) (by kernel_rfl) (by kernel_rfl) (fun _ _ _ h => h) (Or.inl ⟨by rfl, ?hy32⟩) (by assumption) ?rest32
  case hy32 => (intro w hSw; (try dsimp only at hSw); go_simp; (try with_reducible rfl))
  (try simp only [Act.put, List.getElem_toArray, List.getElem_cons_zero, List.getElem_cons_succ, List.setIfInBounds_toArray, List.set_cons_zero, List.set_cons_succ])
  refine wpAnyH_take (i := 51) (oi := ({ dst := some 90, op := Go.Op.pick (Go.Operand.tmp 85) (Go.Operand.tmp 89) (Go.Operand.const (Go.Value.bool false)), type := 4, pos := "law.go:31", after := #[{ on := 46, ground := Go.Ground.data }, { on := 50, ground := Go.Ground.data }], guard := none } : Go.Oper)) (v := ?v33) rfl (by kernel_rfl) (by kernel_rfl) (by kernel_rfl) (fun _ _ _ h => h) (Or.inl ⟨by rfl, ?hy33⟩) (by assumption) ?rest33
  case hy33 => (intro w hSw; (try dsimp only at hSw); go_simp; (try with_reducible rfl))
  (try simp only [Act.put, List.getElem_toArray, List.getElem_cons_zero, List.getElem_cons_succ, List.setIfInBounds_toArray, List.set_cons_zero, List.set_cons_succ])
  refine wpAnyH_take (i := 52) (oi := ({ dst := some 91, op := Go.Op.move (Go.Operand.tmp 90), type := 4, pos := "law.go:31", after := #[{ on := 51, ground := Go.Ground.data }, { on := 49, ground := Go.Ground.chain }], guard := none } : Go.Oper)) (v := ?v34) rfl (by kernel_rfl) (by kernel_rfl) (by kernel_rfl) (fun _ _ _ h => h) (Or.inl ⟨by rfl, ?hy34⟩) (by assumption) ?rest34
  case hy34 => (intro w hSw; (try dsimp only at hSw); go_simp; (try with_reducible rfl))
  (try simp only [Act.put, List.getElem_toArray, List.getElem_cons_zero, List.getElem_cons_succ, List.setIfInBounds_toArray, List.set_cons_zero, List.set_cons_succ])
  refine wpAnyH_ready (rs := [53]) (by kernel_rfl) (by simp) ?_
  refine AllReadyH.cons (o := ({ dst := some 92, op := Go.Op.call { callee := Go.Callee.value (Go.Operand.func 11), args := #[Go.Operand.const (Go.Value.slice none 0 0), Go.Operand.const (Go.Value.int Go.IntKind.i64 1)], argTypes := #[22, 2] }, type := 3, pos := "law.go:31", after := #[{ on := 52, ground := Go.Ground.chain }, { on := 52, ground := Go.Ground.guard }], guard := some (52, true) } : Go.Oper)) rfl (fun K hK => ?_) AllReadyH.nil
  go_simp; refine (height_any none 0 0 [] 1 _ (Rd.nil _ _) (by decide)).mono ?_; rintro e wk ⟨rfl, hwk⟩; rw [k69]; (try (go_wp2_with fail))
  refine hK.out _ _ (by (try dsimp only); exact box4 HBC.out (by with_reducible (repeat (first | exact Ext.rfl_ _ | assumption | refine Ext.drew ?_ | refine Ext.drewN ?_ _ | refine Ext.alloc ?_ _ | refine Ext.trans ?_ (litWorld_ext _ _ _) | refine Ext.setCell ?_ (by first | (simp; done) | (simp; omega)) _ | refine Ext.trans ?_ (by assumption))))) (fun hHeld => ?_)
  clear hK K
  (try simp only [Act.put, List.getElem_toArray, List.getElem_cons_zero, List.getElem_cons_succ, List.setIfInBounds_toArray, List.set_cons_zero, List.set_cons_succ])
  refine wpAnyH_take (i := 54) (oi := ({ dst := some 93, op := Go.Op.binOp Go.BinOp.eql 3 (Go.Operand.tmp 92) (Go.Operand.const (Go.Value.int Go.IntKind.i64 1)) 3, type := 4, pos := "law.go:31", after := #[{ on := 53, ground := Go.Ground.data }, { on := 52, ground := Go.Ground.guard }], guard := some (52, true) } : Go.Oper)) (v := ?v35) rfl (by kernel_rfl) (by kernel_rfl) (by kernel_rfl) (fun _ _ _ h => h) (Or.inl ⟨by rfl, ?hy35⟩) (by assumption) ?rest35
  case hy35 => (intro w hSw; (try dsimp only at hSw); go_simp; (try with_reducible rfl))
  (try simp only [Act.put, List.getElem_toArray, List.getElem_cons_zero, List.getElem_cons_succ, List.setIfInBounds_toArray, List.set_cons_zero, List.set_cons_succ])
  refine wpAnyH_take (i := 55) (oi := ({ dst := some 94, op := Go.Op.pick (Go.Operand.tmp 91) (Go.Operand.tmp 93) (Go.Operand.const (Go.Value.bool false)), type := 4, pos := "law.go:31", after := #[{ on := 52, ground := Go.Ground.data }, { on := 54, ground := Go.Ground.data }], guard := none } : Go.Oper)) (v := ?v36) rfl (by kernel_rfl) (by kernel_rfl) (by kernel_rfl) (fun _ _ _ h => h) (Or.inl ⟨by rfl, ?hy36⟩) (by assumption) ?rest36
  case hy36 => (intro w hSw; (try dsimp only at hSw); go_simp; (try with_reducible rfl))
  (try simp only [Act.put, List.getElem_toArray, List.getElem_cons_zero, List.getElem_cons_succ, List.setIfInBounds_toArray, List.set_cons_zero, List.set_cons_succ])
  refine wpAnyH_take (i := 56) (oi := ({ dst := some 0, op := Go.Op.assign (Go.Operand.tmp 94), type := 4, pos := "law.go:31", after := #[{ on := 55, ground := Go.Ground.data }, { on := 53, ground := Go.Ground.chain }, { on := 0, ground := Go.Ground.phase }, { on := 1, ground := Go.Ground.phase }, { on := 2, ground := Go.Ground.phase }, { on := 3, ground := Go.Ground.phase }, { on := 4, ground := Go.Ground.phase }, { on := 5, ground := Go.Ground.phase }, { on := 6, ground := Go.Ground.phase }, { on := 7, ground := Go.Ground.phase }, { on := 8, ground := Go.Ground.phase }, { on := 9, ground := Go.Ground.phase }, { on := 10, ground := Go.Ground.phase }, { on := 11, ground := Go.Ground.phase }, { on := 12, ground := Go.Ground.phase }, { on := 13, ground := Go.Ground.phase }, { on := 14, ground := Go.Ground.phase }, { on := 15, ground := Go.Ground.phase }, { on := 16, ground := Go.Ground.phase }, { on := 17, ground := Go.Ground.phase }, { on := 18, ground := Go.Ground.phase }, { on := 19, ground := Go.Ground.phase }, { on := 20, ground := Go.Ground.phase }, { on := 21, ground := Go.Ground.phase }, { on := 22, ground := Go.Ground.phase }, { on := 23, ground := Go.Ground.phase }, { on := 24, ground := Go.Ground.phase }, { on := 25, ground := Go.Ground.phase }, { on := 26, ground := Go.Ground.phase }, { on := 27, ground := Go.Ground.phase }, { on := 28, ground := Go.Ground.phase }, { on := 29, ground := Go.Ground.phase }, { on := 30, ground := Go.Ground.phase }, { on := 31, ground := Go.Ground.phase }, { on := 32, ground := Go.Ground.phase }, { on := 33, ground := Go.Ground.phase }, { on := 34, ground := Go.Ground.phase }, { on := 35, ground := Go.Ground.phase }, { on := 36, ground := Go.Ground.phase }, { on := 37, ground := Go.Ground.phase }, { on := 38, ground := Go.Ground.phase }, { on := 39, ground := Go.Ground.phase }, { on := 40, ground := Go.Ground.phase }, { on := 41, ground := Go.Ground.phase }, { on := 42, ground := Go.Ground.phase }, { on := 43, ground := Go.Ground.phase }, { on := 44, ground := Go.Ground.phase }, { on := 45, ground := Go.Ground.phase }, { on := 46, ground := Go.Ground.phase }, { on := 47, ground := Go.Ground.phase }, { on := 48, ground := Go.Ground.phase }, { on := 49, ground := Go.Ground.phase }, { on := 50, ground := Go.Ground.phase }, { on := 51, ground := Go.Ground.phase }, { on := 52, ground := Go.Ground.phase }, { on := 53, ground := Go.Ground.phase }, { on := 54, ground := Go.Ground.phase }, { on := 55, ground := Go.Ground.phase }], guard := none } : Go.Oper)) (v := ?v37) rfl (by kernel_rfl) (by kernel_rfl) (by kernel_rfl) (fun _ _ _ h => h) (Or.inl ⟨by rfl, ?hy37⟩) (by assumption) ?rest37
  case hy37 => (intro w hSw; (try dsimp only at hSw); go_simp; (try with_reducible rfl))
  (try simp only [Act.put, List.getElem_toArray, List.getElem_cons_zero, List.getElem_cons_succ, List.setIfInBounds_toArray, List.set_cons_zero, List.set_cons_succ])
  refine wpAnyH_done (by kernel_rfl) ?_ _
  all_goals
    go_wp2
    go_ret
    exact ⟨rfl, XC.out.trans (by with_reducible (repeat (first | exact Ext.rfl_ _ | assumption | refine Ext.drew ?_ | refine Ext.drewN ?_ _ | refine Ext.alloc ?_ _ | refine Ext.trans ?_ (litWorld_ext _ _ _) | refine Ext.setCell ?_ (by first | (simp; done) | (simp; omega)) _ | refine Ext.trans ?_ (by assumption))))⟩

end Go.Proofs.Ytddaagldelcbeaa
