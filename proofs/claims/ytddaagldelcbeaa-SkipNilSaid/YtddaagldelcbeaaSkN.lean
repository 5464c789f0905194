/- Lists that are not there. Conditions: the pointer is nil, or leads to a list without a head. -/
import Derived.Test.YtddaagldelcbeaaKnow6
import Derived.Test.YtddaagldelcbeaaFill
import Derived.Test.YtddaagldelcbeaaSkC
namespace Go.Proofs.Ytddaagldelcbeaa
set_option linter.unusedSimpArgs false
set_option linter.unusedVariables false
open Go.RowKit Go.Shelf
attribute [local go_sem] Oper.semAt_some

/-- No list. -/
def NoL (w : World) (p : Option Addr) : Prop := p = none ∨ ∃ g, p = some ⟨g, 0, none⟩ ∧ w.cell? ⟨g, 0, none⟩ = some (.pointer none)
theorem NoL.ext {w w' : World} {p : Option Addr} (s : NoL w p) (e : Ext w w') : NoL w' p := s.imp id fun ⟨g, h1, h2⟩ => ⟨g, h1, e.keeps _ _ _ h2⟩

theorem thereN_any (p : Option Addr) (w : World) (s : NoL w p) :
    Calls Try.prog 40 #[.pointer p] w fun e w' => e = .returned (.bool false) ∧ w' = w := by
  rcases s with rfl | ⟨g, rfl, c0⟩
  · go_enter Try.func40, Try.ntmps40
    go_wp2
    go_ret
    exact ⟨rfl, rfl⟩
  · go_enter Try.func40, Try.ntmps40
    go_wp2
    go_ret
    exact ⟨rfl, rfl⟩

theorem lenN_any (p : Option Addr) (w : World) (s : NoL w p) :
    Calls Try.prog 15 #[.pointer p] w fun e w' => e = .returned (.int .i64 0) ∧ w' = w := by
  go_enter Try.func15, Try.ntmps15
  go_wp2_with fail
  refine (thereN_any p w s).mono ?_
  rintro e w' ⟨rfl, rfl⟩
  go_wp2
  go_ret
  exact ⟨rfl, rfl⟩

theorem bytesN_any (p : Option Addr) (w : World) (s : NoL w p) :
    Calls Try.prog 16 #[.pointer p] w fun e w' => e = .returned (.int .i64 0) ∧ w' = w := by
  go_enter Try.func16, Try.ntmps16
  go_wp2_with fail
  refine (thereN_any p w s).mono ?_
  rintro e w' ⟨rfl, rfl⟩
  go_wp2
  go_ret
  exact ⟨rfl, rfl⟩

theorem putN_any (p : Option Addr) (v : Value) (x : Ent) (w : World) (s : NoL w p) (hx : RdE w v x) :
    Calls Try.prog 32 #[.pointer p, v] w fun e w' => e = .returned (.int .i64 1) ∧ Ext w w' := by
  obtain ⟨A, n, c, B, m, d, rfl, _⟩ := hx
  go_enter Try.func32, Try.ntmps32
  go_wp2_with fail
  refine (thereN_any p _ (s.ext (by with_reducible (repeat (first | exact Ext.rfl_ _ | assumption | refine Ext.drew ?_ | refine Ext.drewN ?_ _ | refine Ext.alloc ?_ _ | refine Ext.trans ?_ (by assumption)))))).mono ?_
  rintro e w' ⟨rfl, rfl⟩
  go_wp2
  go_ret
  exact ⟨rfl, (by with_reducible (repeat (first | exact Ext.rfl_ _ | assumption | refine Ext.drew ?_ | refine Ext.drewN ?_ _ | refine Ext.alloc ?_ _ | refine Ext.trans ?_ (by assumption))))⟩

set_option maxHeartbeats 1000000 in
theorem getN_any (p : Option Addr) (A : Option Addr) (n c : Nat) (sq : Int) (w : World) (s : NoL w p) :
    Calls Try.prog 20 #[.pointer p, .slice A n c, .int .i64 sq] w fun e w' => e = .returned (.tuple #[.agg #[.slice none 0 0, .int .i64 0, .int .i64 0, .slice none 0 0], .int .i64 1]) ∧ Ext w w' := by
  go_enter Try.func20, Try.ntmps20
  go_wp2_with fail
  refine (thereN_any p _ (s.ext (by with_reducible (repeat (first | exact Ext.rfl_ _ | assumption | refine Ext.drew ?_ | refine Ext.drewN ?_ _ | refine Ext.alloc ?_ _ | refine Ext.trans ?_ (by assumption)))))).mono ?_
  rintro e w' ⟨rfl, hw⟩
  rw [hw]
  clear hw
  have h2 := blk1 ((w.alloc (.cells #[.slice A n c] 22)).alloc (.cells #[.int .i64 sq] 2)) (.cells #[.slice none 0 0, .int .i64 0, .int .i64 0, .slice none 0 0] 40)
  rw [World.size_alloc, World.size_alloc] at h2
  obtain ⟨r0, r1, r2, r3, f0, f1, f2, f3⟩ := box4 h2 (Ext.rfl_ _)
  go_wp2
  refine bodyPost_ret (v := .tuple #[.agg #[.slice none 0 0, .int .i64 0, .int .i64 0, .slice none 0 0], .int .i64 1]) ?_ rfl ?_
  · simp [results, Try.f20, go_sem, r0, r1, r2, r3]
  · exact ⟨rfl, (by with_reducible (repeat (first | exact Ext.rfl_ _ | assumption | refine Ext.drew ?_ | refine Ext.drewN ?_ _ | refine Ext.alloc ?_ _ | refine Ext.setCell ?_ (by first | (simp; done) | (simp; omega)) _ | refine Ext.trans ?_ (by assumption))))⟩

theorem sameN_any (p : Option Addr) (w : World) (s : NoL w p) :
    Calls Try.prog 30 #[.pointer p, .pointer none] w fun e w' => e = .returned (.bool true) ∧ w' = w := by
  go_enter Try.func30, Try.ntmps30
  go_wp2_with fail
  refine (thereN_any p w s).mono ?_
  rintro e w' ⟨rfl, rfl⟩
  go_wp2_with fail
  refine (thereN_any p _ s).mono ?_
  rintro e w' ⟨rfl, rfl⟩
  go_wp2_with fail
  refine (thereN_any none _ (.inl rfl)).mono ?_
  rintro e w' ⟨rfl, rfl⟩
  go_wp2
  go_ret
  exact ⟨rfl, rfl⟩
theorem sameG_any (g h : Nat) (L : List Nd) (w : World) (s : SkL w g h L) :
    Calls Try.prog 30 #[.pointer (some ⟨g, 0, none⟩), .pointer none] w fun e w' => e = .returned (.bool false) ∧ w' = w := by
  go_enter Try.func30, Try.ntmps30
  go_wp2_with fail
  refine (there_any g h L w s).mono ?_
  rintro e w' ⟨rfl, hw⟩
  rw [hw]
  clear hw
  go_wp2_with fail
  refine (thereN_any none _ (.inl rfl)).mono ?_
  rintro e w' ⟨rfl, hw⟩
  rw [hw]
  clear hw
  go_wp2_with fail
  refine (there_any g h L w s).mono ?_
  rintro e w' ⟨rfl, hw⟩
  rw [hw]
  clear hw
  go_wp2_with fail
  refine (thereN_any none _ (.inl rfl)).mono ?_
  rintro e w' ⟨rfl, hw⟩
  rw [hw]
  clear hw
  go_wp2
  go_ret
  exact ⟨rfl, rfl⟩

set_option maxRecDepth 100000 in
set_option maxHeartbeats 1000000 in
theorem copyN_any (p : Option Addr) (w : World) (s : NoL w p) :
    Calls Try.prog 31 #[.pointer p] w fun e w' => e = .returned (.pointer none) ∧ w' = w := by
  refine (callsIn_wide (n := 3)).1 ?_
  refine callsIn_of_wp_marks Try.func31 rfl trivial ?_ rfl
  simp only [Try.ntmps31, List.size_toArray, List.length_cons, List.length_nil, Nat.reduceAdd, Nat.reduceSub, Array.replicate_succ, Array.replicate_zero, List.push_toArray, List.append_toArray, List.nil_append, List.cons_append]
  gi_wp2
  refine ⟨trivial, ?_⟩
  refine (callsIn_wide.2 (thereN_any p w s)).mono ?_
  rintro e w1 ⟨rfl, hw1⟩
  rw [hw1]
  clear hw1
  gi_wp2
  refine ⟨.pointer none, ?_, rfl, rfl⟩
  simp [results, Try.f31, go_sem]

set_option maxHeartbeats 400000 in
theorem fromP_any (p : Option Addr) (A : Option Addr) (n c : Nat) (w : World) :
    Calls Try.prog 19 #[.pointer p, .slice A n c] w fun e w' => e = .returned (.func (.func 42) #[] #[.pointer (some ⟨w.heap.size, 0, none⟩), .pointer (some ⟨w.heap.size + 1, 0, none⟩)]) ∧
      w' = (w.alloc (.cells #[.pointer p] 28)).alloc (.cells #[.slice A n c] 22) := by
  go_enter Try.func19, Try.ntmps19
  go_wp2
  go_ret
  exact ⟨rfl, rfl⟩

set_option maxHeartbeats 400000 in
theorem levelP_any (p : Option Addr) (n : Int) (w : World) :
    Calls Try.prog 26 #[.pointer p, .int .i64 n] w fun e w' => e = .returned (.func (.func 51) #[] #[.pointer (some ⟨w.heap.size, 0, none⟩), .pointer (some ⟨w.heap.size + 1, 0, none⟩)]) ∧
      w' = (w.alloc (.cells #[.pointer p] 28)).alloc (.cells #[.int .i64 n] 3) := by
  go_enter Try.func26, Try.ntmps26
  go_wp2
  go_ret
  exact ⟨rfl, rfl⟩

set_option maxRecDepth 100000 in
set_option maxHeartbeats 4000000 in
theorem from1_non (gl gk : Nat) (p : Option Addr) (S : Nat → Prop) (w0 : World) (s : NoL w0 p) (hl : w0.cell? ⟨gl, 0, none⟩ = some (.pointer p)) :
    SeqT Try.prog 42 #[.pointer (some ⟨gl, 0, none⟩), .pointer (some ⟨gk, 0, none⟩)] OkN S [] w0 := by
  intro num l J Jx W hW hJ hJx hY hJ0
  have hlW := hW.keeps' hl
  have hs := s.ext hW
  have HS := Lib.hid hs
  clear s hl hs
  refine callsIn_of_wp Try.func42 rfl trivial ?_ rfl
  simp only [Try.ntmps42, List.size_toArray, List.length_cons, List.length_nil, Nat.reduceAdd, Nat.reduceSub, Array.replicate_succ, Array.replicate_zero, List.push_toArray, List.append_toArray, List.nil_append, List.cons_append]
  gi_wp2
  refine ⟨trivial, fun h => (by simp [Fence.wide] at h), ?_⟩
  refine (callsIn_wide.2 (thereN_any p W HS.out)).mono ?_
  rintro e w' ⟨rfl, hw'⟩
  rw [hw']
  clear hw'
  gi_wp2
  refine bodyPost_ret (results_none rfl _ _ _) rfl ?_
  exact ⟨⟨_, rfl⟩, .inl ⟨_, hJ0⟩⟩

set_option maxRecDepth 100000 in
set_option maxHeartbeats 4000000 in
theorem level1_non (gl gn : Nat) (n : Int) (p : Option Addr) (S : Nat → Prop) (w0 : World) (s : NoL w0 p) (hl : w0.cell? ⟨gl, 0, none⟩ = some (.pointer p)) (hnc : w0.cell? ⟨gn, 0, none⟩ = some (.int .i64 n)) :
    SeqT Try.prog 51 #[.pointer (some ⟨gl, 0, none⟩), .pointer (some ⟨gn, 0, none⟩)] OkN S [] w0 := by
  intro num l J Jx W hW hJ hJx hY hJ0
  have hlW := hW.keeps' hl
  have hkW := hW.keeps' hnc
  have hs := s.ext hW
  have HS := Lib.hid hs
  clear s hl hnc hs
  refine callsIn_of_wp Try.func51 rfl trivial ?_ rfl
  simp only [Try.ntmps51, List.size_toArray, List.length_cons, List.length_nil, Nat.reduceAdd, Nat.reduceSub, Array.replicate_succ, Array.replicate_zero, List.push_toArray, List.append_toArray, List.nil_append, List.cons_append]
  gi_wp2
  refine ⟨trivial, fun h => (by simp [Fence.wide] at h), ?_⟩
  refine (callsIn_wide.2 (thereN_any p W HS.out)).mono ?_
  rintro e w' ⟨rfl, hw'⟩
  rw [hw']
  clear hw'
  gi_wp2
  go_end0
  exact ⟨⟨_, rfl⟩, .inl ⟨_, hJ0⟩⟩

theorem goesFromN_any (p : Option Addr) (A : Option Addr) (n c : Nat) (w w2 : World) (s : NoL w2 p) (hx : Ext ((w.alloc (.cells #[.pointer p] 28)).alloc (.cells #[.slice A n c] 22)) w2) :
    Calls Try.prog 18 #[.func (.func 42) #[] #[.pointer (some ⟨w.heap.size, 0, none⟩), .pointer (some ⟨w.heap.size + 1, 0, none⟩)], .slice none 0 0, .int .i64 0] w2 fun e w' => e = .returned (.bool true) ∧ Ext w2 w' := by
  have h0 := cnew w (.pointer p) 28
  have g0 : w2.cell? ⟨w.heap.size, 0, none⟩ = some (.pointer p) := hx.keeps _ _ _ ((Ext.alloc (Ext.rfl_ _) _).keeps _ _ _ h0.1)
  exact goes_any _ _ [] none 0 0 0 w2 (enters_of Try.func42 (by kernel_rfl) rfl) (fun S W hS hW => from1_non _ _ p S W (s.ext hW) (hW.keeps _ _ _ g0)) (RdL.nil _ _)
theorem goesLevelN_any (p : Option Addr) (z : Int) (w w2 : World) (s : NoL w2 p) (hx : Ext ((w.alloc (.cells #[.pointer p] 28)).alloc (.cells #[.int .i64 z] 3)) w2) :
    Calls Try.prog 18 #[.func (.func 51) #[] #[.pointer (some ⟨w.heap.size, 0, none⟩), .pointer (some ⟨w.heap.size + 1, 0, none⟩)], .slice none 0 0, .int .i64 0] w2 fun e w' => e = .returned (.bool true) ∧ Ext w2 w' := by
  have h0 := cnew w (.pointer p) 28
  have h1 := cnew (w.alloc (.cells #[.pointer p] 28)) (.int .i64 z) 3
  rw [World.size_alloc] at h1
  have g0 : w2.cell? ⟨w.heap.size, 0, none⟩ = some (.pointer p) := hx.keeps _ _ _ ((Ext.alloc (Ext.rfl_ _) _).keeps _ _ _ h0.1)
  have g1 : w2.cell? ⟨w.heap.size + 1, 0, none⟩ = some (.int .i64 z) := hx.keeps _ _ _ h1.1
  exact goes_any _ _ [] none 0 0 0 w2 (enters_of Try.func51 (by kernel_rfl) rfl) (fun S W hS hW => level1_non _ _ z p S W (s.ext hW) (hW.keeps _ _ _ g0) (hW.keeps _ _ _ g1)) (RdL.nil _ _)

set_option maxRecDepth 100000 in
set_option maxHeartbeats 4000000 in
theorem nothing_any (p : Option Addr) (w : World) (s : NoL w p) :
    Calls Try.prog 36 #[.pointer p] w fun e w' => e = .returned (.bool true) ∧ Ext w w' := by
  have hconv := fun (w : World) (cs : Array Value) (n c : Nat) => run_convert_lit (P := Try.prog) w 22 5 cs n c Try.underlying22 Try.underlying5
  have HS := Lib.hid s
  clear s
  go_enter Try.func36, Try.ntmps36
  go_wp2_with fail
  refine (getN_any p _ 1 1 1 _ (HS.out.ext (by with_reducible (repeat (first | exact Ext.rfl_ _ | assumption | refine Ext.drew ?_ | refine Ext.drewN ?_ _ | refine Ext.alloc ?_ _ | refine Ext.trans ?_ (litWorld_ext _ _ _) | refine Ext.setCell ?_ (by first | (simp; done) | (simp; omega)) _ | refine Ext.trans ?_ (by assumption)))))).mono ?_
  rintro e w1 ⟨rfl, hw1⟩
  go_wp2_with fail
  refine (lput_any [97] 1 _ (by decide)).mono ?_
  rintro e w2 ⟨u2, rfl, hu2, hw2⟩
  have X2 := Lib.hid (show Ext w w2 from (by with_reducible (repeat (first | exact Ext.rfl_ _ | assumption | refine Ext.drew ?_ | refine Ext.drewN ?_ _ | refine Ext.alloc ?_ _ | refine Ext.trans ?_ (litWorld_ext _ _ _) | refine Ext.setCell ?_ (by first | (simp; done) | (simp; omega)) _ | refine Ext.trans ?_ (by assumption)))))
  clear hw1 hw2
  go_wp2_with fail
  refine (putN_any p u2 _ _ (HS.out.ext X2.out) hu2).mono ?_
  rintro e w3 ⟨rfl, hw3⟩
  go_wp2_with fail
  refine (num_any _ _).mono ?_
  rintro e w' ⟨rfl, rfl⟩
  go_wp2_with fail
  refine (num_any _ _).mono ?_
  rintro e w' ⟨rfl, rfl⟩
  have X3 := Lib.hid (X2.out.trans hw3)
  clear hw3
  go_wp2_with fail
  refine (fromP_any p none 0 0 _).mono ?_
  rintro e w4 ⟨rfl, hw4⟩
  have x34 : Ext w3 w4 := by rw [hw4]; exact (by with_reducible (repeat (first | exact Ext.rfl_ _ | assumption | refine Ext.drew ?_ | refine Ext.drewN ?_ _ | refine Ext.alloc ?_ _ | refine Ext.trans ?_ (by assumption))))
  have HW4 := Lib.hid hw4
  clear hw4
  go_wp2_with fail
  refine (goesFromN_any p none 0 0 w3 w4 (HS.out.ext (X3.out.trans x34)) (by rw [HW4.out]; exact Ext.rfl_ _)).mono ?_
  rintro e w5 ⟨rfl, hw5⟩
  have X5 := Lib.hid (X3.out.trans (Ext.trans x34 hw5))
  clear hw5 x34
  go_wp2_with fail
  refine (levelP_any p 0 _).mono ?_
  rintro e w6 ⟨rfl, hw6⟩
  have x56 : Ext w5 w6 := by rw [hw6]; exact (by with_reducible (repeat (first | exact Ext.rfl_ _ | assumption | refine Ext.drew ?_ | refine Ext.drewN ?_ _ | refine Ext.alloc ?_ _ | refine Ext.trans ?_ (by assumption))))
  have HW6 := Lib.hid hw6
  clear hw6
  go_wp2_with fail
  refine (goesLevelN_any p 0 w5 w6 (HS.out.ext (X5.out.trans x56)) (by rw [HW6.out]; exact Ext.rfl_ _)).mono ?_
  rintro e w7 ⟨rfl, hw7⟩
  have X7 := Lib.hid (X5.out.trans (Ext.trans x56 hw7))
  clear hw7 x56
  go_wp2_with fail
  refine (lenN_any p _ (HS.out.ext X7.out)).mono ?_
  rintro e w' ⟨rfl, hw'⟩
  rw [hw']
  clear hw'
  go_wp2_with fail
  refine (bytesN_any p _ (HS.out.ext X7.out)).mono ?_
  rintro e w' ⟨rfl, hw'⟩
  rw [hw']
  clear hw'
  go_wp2_with fail
  refine (copyN_any p _ (HS.out.ext X7.out)).mono ?_
  rintro e w' ⟨rfl, hw'⟩
  rw [hw']
  clear hw'
  go_wp2_with fail
  refine (sameN_any p _ (HS.out.ext X7.out)).mono ?_
  rintro e w' ⟨rfl, hw'⟩
  rw [hw']
  clear hw'
  go_wp2
  go_ret
  exact ⟨rfl, X7.out⟩

theorem entries_ne {x y : Ent} (h : x.val ≠ y.val) : x ≠ y := fun e => h (by rw [e])
def bx : Ent := ⟨[98], 1, 1, [120]⟩
theorem n71 : insP [a5] bx = ([a5, bx], 0) := by decide
theorem n73 : lvl [a5] 0 = [a5] := by
  unfold lvl
  rw [if_pos (by omega)]
  have : 0 < ht a5 := (htH_le a5.key a5.seq).1
  simp [this]
theorem n74 : ¬ ([a5, b1] : List Ent) = [a5, bx] := by decide
theorem n75 : ¬ ([a5] : List Ent) = [a5, b1] := by decide
theorem n72 : insP [a5] b1 = ([a5, b1], 0) := by decide

set_option maxRecDepth 100000 in
set_option maxHeartbeats 8000000 in
theorem nil_walk (w : World) : Calls Try.prog 9 #[] w fun e w' => e = .returned (.bool true) ∧ Ext w w' := by
  have hconv := fun (w : World) (cs : Array Value) (n c : Nat) => run_convert_lit (P := Try.prog) w 22 5 cs n c Try.underlying22 Try.underlying5
  go_enter Try.func9, Try.ntmps9
  go_wp2_with fail
  refine (new_any _).mono ?_
  rintro e w1 ⟨rfl, hs1, hw1⟩
  obtain ⟨g, hg⟩ : ∃ g, g = w.heap.size + 1 := ⟨_, rfl⟩
  obtain ⟨h, hh⟩ : ∃ h, h = w.heap.size := ⟨_, rfl⟩
  rw [← hg] at hs1 ⊢
  have hT1 : ∀ b, skT g h [] b → w.heap.size ≤ b := by
    rintro b (rfl | rfl | hb)
    · omega
    · omega
    · simp at hb
  have HS1 : Hid (SkL w1 g h []) := Lib.hid (by rw [hh]; exact hs1)
  have HT1 := Lib.hid hT1
  have X1 := Lib.hid hw1
  clear hs1 hT1 hg hh hw1
  go_wp2_with fail
  refine (lput_any [97] 5 _ (by decide)).mono ?_
  rintro e w2 ⟨u2, rfl, hu2, hw2⟩
  go_wp2_with fail
  refine (skput_any g h [] u2 a5 _ (HS1.out.ext hw2) hu2 (by simp)).mono ?_
  rintro e w3 ⟨rfl, L3, hL3, hs3, hk3, hn3, hl3⟩
  rw [show (insP (List.map Nd.x []) a5).2 = 0 from congrArg Prod.snd k61]
  have HM3 : Hid (L3.map Nd.x = [a5]) := Lib.hid (hL3.trans (congrArg Prod.fst k61))
  have HS3 := Lib.hid hs3
  have X3 := Lib.hid (hk3.ext_of (X1.out.trans hw2) (fun j hj hT => by have := HT1.out j hT; omega))
  have HL3 := Lib.hid hl3
  clear hL3 hs3 hk3 hn3 hw2 hu2 hl3
  go_wp2_with fail
  refine (skcopy_any g h L3 _ HS3.out (by have := HL3.out; simp at this; omega)).mono ?_
  rintro e w4 ⟨g4, h4, L4, rfl, hm4, hs4, hw4, hT4⟩
  have HS4 := Lib.hid hs4
  have HT4 := Lib.hid hT4
  have HM4 := Lib.hid (hm4.trans HM3.out)
  have X34 := Lib.hid hw4
  clear hm4 hs4 hw4 hT4
  go_wp2_with fail
  refine (skcopy_any g h L3 _ (HS3.out.ext X34.out) (by have := HL3.out; simp at this; omega)).mono ?_
  rintro e w5 ⟨g5, h5, L5, rfl, hm5, hs5, hw5, hT5⟩
  have HS5 := Lib.hid hs5
  have HT5 := Lib.hid hT5
  have HM5 := Lib.hid (hm5.trans HM3.out)
  have X45 := Lib.hid hw5
  clear hm5 hs5 hw5 hT5
  go_wp2_with fail
  refine (lput_any [98] 1 _ (by decide)).mono ?_
  rintro e w6 ⟨u6, rfl, hu6, hw6⟩
  obtain ⟨A6, n6, c6, B6, m6, d6, rfl, hk6, hv6, hnc6, hn6, hmd6, hm6⟩ := id hu6
  obtain ⟨q0, q1, q2, q3, f0, f1, f2, f3⟩ := box4 (blk1 w6 (.cells #[.slice A6 n6 c6, .int .i64 1, .int .i64 1, .slice B6 m6 d6] 40)) (litWorld_ext _ 5 #[.int .u8 120])
  have hconv2 : ∀ (w : World) (o : Obj) (cs : Array Value) (n c : Nat), (convert 22 22 (.slice (some ⟨w.heap.size + 1, 0, none⟩) n c)).run Try.prog ((w.alloc o).alloc (.cells cs 5)) = .ok (.slice (some ⟨w.heap.size + 1, 0, none⟩) n c) (litWorld (w.alloc o) 5 cs) := fun w o cs n c => by
    have := hconv (w.alloc o) cs n c
    rwa [World.size_alloc] at this
  have X36 := Lib.hid (X34.out.trans (X45.out.trans hw6))
  have X56 := Lib.hid hw6
  clear hw6
  go_wp2_with fail
  obtain ⟨W7, hW7⟩ : ∃ W7, W7 = (litWorld (w6.alloc (.cells #[.slice A6 n6 c6, .int .i64 1, .int .i64 1, .slice B6 m6 d6] 40)) 5 #[.int .u8 120]).setCell ⟨w6.heap.size, 3, none⟩ (.slice (some ⟨w6.heap.size + 1, 0, none⟩) 1 1) := ⟨_, rfl⟩
  rw [← hW7]
  obtain ⟨V6, hV6⟩ : ∃ V6, V6 = litWorld (w6.alloc (.cells #[.slice A6 n6 c6, .int .i64 1, .int .i64 1, .slice B6 m6 d6] 40)) 5 #[.int .u8 120] := ⟨_, rfl⟩
  have xv : Ext w6 V6 := by rw [hV6]; exact (Ext.alloc (Ext.rfl_ _) _).trans (litWorld_ext _ _ _)
  have hlit : Rd V6 (some ⟨w6.heap.size + 1, 0, none⟩) 1 [120] := by rw [hV6]; exact lit1e (w6.alloc (.cells #[.slice A6 n6 c6, .int .i64 1, .int .i64 1, .slice B6 m6 d6] 40)) 5 (w6.heap.size + 1) 120 (by simp)
  have zv : w6.heap.size < V6.heap.size := by
    have := (litWorld_ext (w6.alloc (.cells #[.slice A6 n6 c6, .int .i64 1, .int .i64 1, .slice B6 m6 d6] 40)) 5 #[.int .u8 120]).size
    rw [← hV6] at this
    simp at this
    omega
  rw [← hV6] at hW7 q0 q1 q2 q3 f3
  have kv : Kept (fun k => k ≠ w6.heap.size) V6 W7 := by rw [hW7]; exact (Kept.rfl_ _ _).setCell (by simp) _
  have d0 : W7.cell? ⟨w6.heap.size, 0, none⟩ = some (.slice A6 n6 c6) := by rw [hW7, World.cell?_setCell_other _ _ _ _ (fun e => by simp at e)]; exact q0
  have d1 : W7.cell? ⟨w6.heap.size, 1, none⟩ = some (.int .i64 1) := by rw [hW7, World.cell?_setCell_other _ _ _ _ (fun e => by simp at e)]; exact q1
  have d2 : W7.cell? ⟨w6.heap.size, 2, none⟩ = some (.int .i64 1) := by rw [hW7, World.cell?_setCell_other _ _ _ _ (fun e => by simp at e)]; exact q2
  have d3 : W7.cell? ⟨w6.heap.size, 3, none⟩ = some (.slice (some ⟨w6.heap.size + 1, 0, none⟩) 1 1) := by rw [hW7]; exact World.cell?_setCell_same' _ _ _ (by rw [q3]; rfl)
  have x67 : Ext w6 W7 := kv.ext_of xv (fun k hk => by omega)
  have hr7 : RdE W7 (.agg #[.slice A6 n6 c6, .int .i64 1, .int .i64 1, .slice (some ⟨w6.heap.size + 1, 0, none⟩) 1 1]) bx :=
    ⟨A6, n6, c6, _, 1, 1, rfl, hk6.ext x67, hlit.keptX kv (fun _ p e => by cases e; simp), hnc6, hn6, Nat.le_refl _, by decide⟩
  have X37 := Lib.hid (X36.out.trans x67)
  have X47 := Lib.hid (X45.out.trans ((Ext.trans (show Ext w5 w6 from X56.out) x67)))
  have X57 := Lib.hid (Ext.trans X56.out x67)
  have HR7 := Lib.hid hr7
  have D0 := Lib.hid d0
  have D1 := Lib.hid d1
  have D2 := Lib.hid d2
  have D3 := Lib.hid d3
  have Z7 : Hid (w6.heap.size < W7.heap.size) := Lib.hid (Nat.lt_of_lt_of_le zv kv.size)
  clear q0 q1 q2 q3 f0 f1 f2 f3 d0 d1 d2 d3 hW7 hV6 xv hlit zv kv x67 hr7 hk6 hv6 hnc6 hn6 hmd6 hm6 hu6
  obtain ⟨b6, hb6⟩ : ∃ b, b = w6.heap.size := ⟨_, rfl⟩
  rw [← hb6] at D0 D1 D2 D3 Z7 HR7 ⊢
  have HB6 := Lib.hid (show w5.heap.size ≤ b6 from by rw [hb6]; exact X56.out.size)
  clear hb6
  refine (lput_any [98] 1 _ (by decide)).mono ?_
  rintro e w8 ⟨u8, rfl, hu8, hw8⟩
  have X78 := Lib.hid hw8
  clear hw8
  go_wp2_with fail
  refine (skput_any g4 h4 L4 u8 b1 _ (HS4.out.ext (X47.out.trans X78.out)) hu8 (by have := congrArg List.length HM4.out; simp at this; omega)).mono ?_
  rintro e w9 ⟨rfl, L9, hL9, hs9, hk9, hn9, hl9⟩
  rw [HM4.out] at hL9 ⊢
  rw [show (insP [a5] b1).2 = 0 from congrArg Prod.snd n72]
  have hno9 : ∀ b, b < w4.heap.size ∨ ¬ skT g4 h4 L4 b := fun b => by
    by_cases hb : skT g4 h4 L4 b
    · exact .inl (HS4.out.lt b hb)
    · exact .inr hb
  have hge : ∀ b, w4.heap.size ≤ b → ¬ skT g4 h4 L4 b := fun b hb h => by have := HS4.out.lt b h; omega
  have hz45 := X45.out.size
  have hU8 := (HS4.out.ext (X47.out.trans X78.out)).noU
  have HM9 : Hid (L9.map Nd.x = [a5, b1]) := Lib.hid (hL9.trans (congrArg Prod.fst n72))
  have HS9 := Lib.hid hs9
  have X39 := Lib.hid (hk9.ext_of (X37.out.trans X78.out) (fun j hj hT => by have := HT4.out j hT; omega))
  have HS59 := Lib.hid ((HS5.out.ext (X57.out.trans X78.out)).kept hk9 hU8 (fun b hb => hge b (HT5.out b hb)))
  have HR9 := Lib.hid ((HR7.out.ext X78.out).keptU hk9 hU8)
  have hb6n : ¬ skT g4 h4 L4 b6 := hge b6 (by have := HB6.out; omega)
  have e0 := hk9.cell (X78.out.keeps _ _ _ D0.out) hb6n
  have e1 := hk9.cell (X78.out.keeps _ _ _ D1.out) hb6n
  have e2 := hk9.cell (X78.out.keeps _ _ _ D2.out) hb6n
  have e3 := hk9.cell (X78.out.keeps _ _ _ D3.out) hb6n
  have HNW : Hid (∀ b, skT g4 h4 L9 b → b < w4.heap.size ∨ w5.heap.size ≤ b) := Lib.hid (fun b hb => by
    rcases hb with h | h | h
    · exact .inl (HS4.out.lt b (.inl h))
    · exact .inl (HS4.out.lt b (.inr (.inl h)))
    · obtain ⟨nd, hm, rfl⟩ := List.mem_map.1 h
      rcases hn9 nd hm with h | ⟨h, _⟩
      · exact .inl (HS4.out.lt _ (.inr (.inr (List.mem_map_of_mem h))))
      · exact .inr (Nat.le_trans (X57.out.trans X78.out).size h))
  clear hL9 hs9 hk9 hn9 hl9 hno9 hge hu8 hU8 hb6n
  go_wp2_with fail
  refine (skput_any g5 h5 L5 _ bx _ HS59.out HR9.out (by have := congrArg List.length HM5.out; simp at this; omega)).mono ?_
  rintro e wa ⟨rfl, La, hLa, hsa, hka, _, _⟩
  rw [HM5.out] at hLa ⊢
  rw [show (insP [a5] bx).2 = 0 from congrArg Prod.snd n71]
  have HMA : Hid (La.map Nd.x = [a5, bx]) := Lib.hid (hLa.trans (congrArg Prod.fst n71))
  have HSA := Lib.hid hsa
  have X3A := Lib.hid (hka.ext_of X39.out (fun j hj hT => by have := HT5.out j hT; have := X34.out.size; omega))
  have HS9A := Lib.hid (HS9.out.kept hka HS59.out.noU (fun b hb hT => by
    have h1 := HT5.out b hT
    have h2 := HS5.out.lt b hT
    rcases HNW.out b hb with h | h <;> omega))
  have HSS := Lib.hid (HS3.out.ext X3A.out)
  clear hLa hsa hka e0 e1 e2 e3
  go_wp2_with fail
  refine (level_any g (-1) _).mono ?_
  rintro e wb ⟨rfl, hwb⟩
  have xab : Ext wa wb := by rw [hwb]; exact (by with_reducible (repeat (first | exact Ext.rfl_ _ | assumption | refine Ext.drew ?_ | refine Ext.drewN ?_ _ | refine Ext.alloc ?_ _ | refine Ext.trans ?_ (by assumption))))
  have HWB := Lib.hid hwb
  clear hwb
  go_wp2_with fail
  refine (goesLevel_any g h L3 (-1) none 0 0 0 wa wb (HSS.out.ext xab) (by rw [HWB.out]; exact Ext.rfl_ _) (by rw [show lvl (L3.map Nd.x) (-1) = [] from if_neg (by omega)]; exact RdL.nil _ _)).mono ?_
  rintro e wc ⟨rfl, hwc⟩
  have XAC := Lib.hid (xab.trans hwc)
  clear xab hwc
  go_wp2_with fail
  refine (level_any g 8 _).mono ?_
  rintro e wd ⟨rfl, hwd⟩
  have xcd : Ext wc wd := by rw [hwd]; exact (by with_reducible (repeat (first | exact Ext.rfl_ _ | assumption | refine Ext.drew ?_ | refine Ext.drewN ?_ _ | refine Ext.alloc ?_ _ | refine Ext.trans ?_ (by assumption))))
  have HWD := Lib.hid hwd
  clear hwd
  go_wp2_with fail
  refine (goesLevel_any g h L3 8 none 0 0 0 wc wd (HSS.out.ext (XAC.out.trans xcd)) (by rw [HWD.out]; exact Ext.rfl_ _) (by rw [show lvl (L3.map Nd.x) 8 = [] from if_neg (by omega)]; exact RdL.nil _ _)).mono ?_
  rintro e we ⟨rfl, hwe⟩
  have XAE := Lib.hid (XAC.out.trans (xcd.trans hwe))
  clear xcd hwe
  go_wp2_with fail
  refine (level_any g 0 _).mono ?_
  rintro e wf ⟨rfl, hwf⟩
  have xef : Ext we wf := by rw [hwf]; exact (by with_reducible (repeat (first | exact Ext.rfl_ _ | assumption | refine Ext.drew ?_ | refine Ext.drewN ?_ _ | refine Ext.alloc ?_ _ | refine Ext.trans ?_ (by assumption))))
  have HWF := Lib.hid hwf
  clear hwf
  go_wp2_with fail
  refine (lput_any [97] 5 _ (by decide)).mono ?_
  rintro e wg ⟨ug, rfl, hug, hwg⟩
  obtain ⟨Ag, ng, cg, Bg, mg, dg, rfl, _⟩ := id hug
  have XFG := Lib.hid hwg
  have XEG := Lib.hid (xef.trans hwg)
  have HUG := Lib.hid hug
  clear hwg xef hug
  go_wp2_with fail
  refine (goesLevel_any g h L3 0 (some ⟨wg.heap.size, 0, none⟩) 1 1 0 we (wg.alloc (.cells #[.slice Ag ng cg, .int .i64 5, .int .i64 1, .slice Bg mg dg] 40)) (HSS.out.ext (XAE.out.trans (XEG.out.trans (Ext.alloc (Ext.rfl_ _) _)))) (by rw [← HWF.out]; exact XFG.out.trans (Ext.alloc (Ext.rfl_ _) _)) (by
    rw [HM3.out, show lvl [a5] 0 = [a5] from n73]
    exact rdl_row (w := wg) 40 (hs := [⟨Ag, ng, cg, Bg, mg, dg⟩]) (xs := [a5]) rfl (by decide) (by intro k i1 i2; obtain rfl : k = 0 := (by simp at i2; exact i2); exact HUG.out))).mono ?_
  rintro e wh ⟨rfl, hwh⟩
  have XAH := Lib.hid (XAE.out.trans (XEG.out.trans ((Ext.alloc (Ext.rfl_ _) _).trans hwh)))
  clear hwh
  go_wp2_with fail
  refine (sksame_any g4 h4 g5 h5 L9 La _ (HS9A.out.ext XAH.out) (HSA.out.ext XAH.out)).mono ?_
  rintro e wi ⟨rfl, hwi⟩
  rw [show decide (L9.map Nd.x = La.map Nd.x) = false from decide_eq_false (by rw [HM9.out, HMA.out]; exact n74)]
  have XAI := Lib.hid (XAH.out.trans hwi)
  clear hwi
  go_wp2_with fail
  refine (sksame_any g h g4 h4 L3 L9 _ (HSS.out.ext XAI.out) (HS9A.out.ext XAI.out)).mono ?_
  rintro e wj ⟨rfl, hwj⟩
  rw [show decide (L3.map Nd.x = L9.map Nd.x) = false from decide_eq_false (by rw [HM3.out, HM9.out]; exact n75)]
  have XAJ := Lib.hid (XAI.out.trans hwj)
  clear hwj
  go_wp2_with fail
  refine (sameG_any g h L3 _ (HSS.out.ext XAJ.out)).mono ?_
  rintro e w' ⟨rfl, hw'⟩
  rw [hw']
  clear hw'
  go_wp2_with fail
  refine (skput_bad g h L3 _ ent0 _ (HSS.out.ext XAJ.out) (FrE.zero _ 0).rd (by decide)).mono ?_
  rintro e wk ⟨rfl, hwk⟩
  have XAK := Lib.hid (XAJ.out.trans hwk)
  clear hwk
  go_wp2_with fail
  refine (num_any _ _).mono ?_
  rintro e w' ⟨rfl, rfl⟩
  go_wp2_with fail
  refine (nothing_any none _ (.inl rfl)).mono ?_
  rintro e wl ⟨rfl, hwl⟩
  have XAL := Lib.hid (XAK.out.trans hwl)
  clear hwl
  go_wp2_with fail
  refine (nothing_any (some ⟨wl.heap.size, 0, none⟩) _ (.inr ⟨_, rfl, ?_⟩)).mono ?_
  · rw [cell_at (blk1 wl (.cells #[.pointer none, .int .i64 0, .int .i64 0] 65))]; rfl
  rintro e wm ⟨rfl, hwm⟩
  have XAM := Lib.hid (XAL.out.trans (show Ext wl wm from (by with_reducible (repeat (first | exact Ext.rfl_ _ | assumption | refine Ext.drew ?_ | refine Ext.drewN ?_ _ | refine Ext.alloc ?_ _ | refine Ext.trans ?_ (by assumption))))))
  clear hwm
  go_wp2_with fail
  refine (known_any _).mono ?_
  rintro e wn ⟨rfl, hwn⟩
  go_wp2
  go_ret
  exact ⟨rfl, X3.out.trans (X3A.out.trans (XAM.out.trans hwn))⟩

end Go.Proofs.Ytddaagldelcbeaa
