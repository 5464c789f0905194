/- From and Level: what they go over. Conditions: the list is one; the key reads. -/
import Derived.Test.YtddaagldelcbeaaSkV
namespace Go.Proofs.Ytddaagldelcbeaa
set_option linter.unusedSimpArgs false
set_option linter.unusedVariables false
open Go.RowKit Go.Shelf
attribute [local go_sem] Oper.semAt_some

set_option maxHeartbeats 400000 in
theorem from_any (g : Nat) (A : Option Addr) (n c : Nat) (w : World) :
    Calls Try.prog 19 #[.pointer (some ⟨g, 0, none⟩), .slice A n c] w fun e w' => e = .returned (.func (.func 42) #[] #[.pointer (some ⟨w.heap.size, 0, none⟩), .pointer (some ⟨w.heap.size + 1, 0, none⟩)]) ∧
      w' = (w.alloc (.cells #[.pointer (some ⟨g, 0, none⟩)] 28)).alloc (.cells #[.slice A n c] 22) := by
  go_enter Try.func19, Try.ntmps19
  go_wp2
  go_ret
  exact ⟨rfl, rfl⟩

set_option maxHeartbeats 400000 in
theorem level_any (g : Nat) (n : Int) (w : World) :
    Calls Try.prog 26 #[.pointer (some ⟨g, 0, none⟩), .int .i64 n] w fun e w' => e = .returned (.func (.func 51) #[] #[.pointer (some ⟨w.heap.size, 0, none⟩), .pointer (some ⟨w.heap.size + 1, 0, none⟩)]) ∧
      w' = (w.alloc (.cells #[.pointer (some ⟨g, 0, none⟩)] 28)).alloc (.cells #[.int .i64 n] 3) := by
  go_enter Try.func26, Try.ntmps26
  go_wp2
  go_ret
  exact ⟨rfl, rfl⟩

set_option maxRecDepth 100000 in
set_option maxHeartbeats 1000000 in
theorem from11_any (gk : Nat) (A : Option Addr) (n c : Nat) (v : Value) (k : Bs) (y : Ent) (w : World) (hg : w.cell? ⟨gk, 0, none⟩ = some (.slice A n c)) (hk : Rd w A n k) (hy : RdE w v y) :
    Calls Try.prog 44 #[v, .pointer (some ⟨gk, 0, none⟩)] w fun e w' => e = .returned (.bool (decide (cmpK y.key k < 0))) ∧ Ext w w' := by
  obtain ⟨A', n', c', B', m', d', rfl, hyk, _⟩ := hy
  have hx1 : Ext w (w.alloc (.cells #[.slice A' n' c', .int .i64 y.seq, .int .i64 y.kind, .slice B' m' d'] 40)) := (by with_reducible (repeat (first | exact Ext.rfl_ _ | assumption | refine Ext.drew ?_ | refine Ext.drewN ?_ _ | refine Ext.alloc ?_ _ | refine Ext.trans ?_ (by assumption))))
  obtain ⟨q0, q1, q2, q3, _, _, _, _⟩ := box4 (blk1 w (.cells #[.slice A' n' c', .int .i64 y.seq, .int .i64 y.kind, .slice B' m' d'] 40)) (Ext.rfl_ _)
  have hg1 := hx1.keeps _ _ _ hg
  have HK := Lib.hid (hk.ext hx1)
  have HY := Lib.hid (hyk.ext hx1)
  have HX := Lib.hid hx1
  clear hk hyk hx1 hg
  go_enter Try.func44, Try.ntmps44
  go_wp2_with fail
  refine (cmpKeys_any _ _ _ _ _ _ y.key k _ HY.out HK.out).mono ?_
  rintro e w' ⟨rfl, rfl⟩
  go_wp2
  go_ret
  exact ⟨ret_bool rfl, HX.out⟩

theorem filt_all (B : List Nd) : B.filter (fun nd => decide (0 < ht nd.x)) = B :=
  List.filter_eq_self.2 fun nd _ => by have := (htH_le nd.x.key nd.x.seq).1; unfold ht; simp; omega
theorem takeWhile_true {α : Type} (p : α → Bool) (l : List α) : ∀ a ∈ l.takeWhile p, p a = true := by
  induction l with
  | nil => intro a h; simp at h
  | cons x l ih =>
    intro a h
    rw [List.takeWhile_cons] at h
    split at h
    · rcases List.mem_cons.1 h with rfl | h
      · assumption
      · exact ih a h
    · simp at h

set_option maxRecDepth 100000 in
set_option maxHeartbeats 4000000 in
theorem from1_seq (g h gl gk : Nat) (L A0 B0 : List Nd) (A : Option Addr) (n c : Nat) (k : Bs) (S : Nat → Prop) (w00 w0 : World) (s : SkL w00 g h L) (hk : Rd w00 A n k) (hL : L = A0 ++ B0) (hA : ∀ nd ∈ A0, cmpK nd.x.key k < 0) (hB : ∀ nd ∈ B0, ¬ cmpK nd.x.key k < 0)
    (h0 : Ext w00 w0) (hS : ∀ k, S k → w00.heap.size ≤ k) (hl : w0.cell? ⟨gl, 0, none⟩ = some (.pointer (some ⟨g, 0, none⟩))) (hkc : w0.cell? ⟨gk, 0, none⟩ = some (.slice A n c)) :
    SeqT Try.prog 42 #[.pointer (some ⟨gl, 0, none⟩), .pointer (some ⟨gk, 0, none⟩)] OkN S (B0.map Nd.x) w0 := by
  intro num l J Jx W hW hJ hJx hY hJ0
  have h0W := h0.trans hW
  have hlW := hW.keeps' hl
  have hkW := hW.keeps' hkc
  have HS := Lib.hid s
  have HK := Lib.hid hk
  have HA := Lib.hid hA
  have HB := Lib.hid hB
  have HKW := Lib.hid hkW
  have HL := Lib.hid hL
  clear s hk hA hB hl hkc hkW hL
  refine callsIn_of_wp Try.func42 rfl trivial ?_ rfl
  simp only [Try.ntmps42, List.size_toArray, List.length_cons, List.length_nil, Nat.reduceAdd, Nat.reduceSub, Array.replicate_succ, Array.replicate_zero, List.push_toArray, List.append_toArray, List.nil_append, List.cons_append]
  gi_wp2
  refine ⟨trivial, fun h => (by simp [Fence.wide] at h), ?_⟩
  refine (callsIn_wide.2 (there_any g h L W (HS.out.ext h0W))).mono ?_
  rintro e w' ⟨rfl, hw'⟩
  rw [hw']
  clear hw'
  gi_wp2
  refine ⟨trivial, fun h => (by simp [Fence.wide] at h), ?_⟩
  refine (callsIn_wide.2 (search_any 44 #[.pointer (some ⟨gk, 0, none⟩)] (fun y => decide (cmpK y.key k < 0)) g h L A0 B0 W (HS.out.ext h0W) HL.out (enters_of Try.func44 (by kernel_rfl) rfl) ?_ ?_ ?_)).mono ?_
  · intro W' nd' hW' hmem
    exact from11_any gk A n c _ k nd'.x W' (hW'.keeps _ _ _ HKW.out) (HK.out.ext (h0W.trans hW')) ((HS.out.ext (h0W.trans hW')).sk.rd nd' hmem)
  · intro a ha; exact decide_eq_true (HA.out a ha)
  · intro b hb; exact decide_eq_false (by have := HB.out b hb; omega)
  rintro e w3 ⟨rfl, hw3⟩
  have X3 := Lib.hid hw3
  clear hw3
  gi_wp2
  refine ⟨trivial, fun h => (by simp [Fence.wide] at h), ?_⟩
  have hov : SeqV Try.prog 46 (fun y => #[nx 0 B0, .int .i64 0, y]) OkN S (B0.map Nd.x) w00 := by
    have := over_seq 0 (by decide) g h L A0 B0 S w00 w00 HS.out HL.out (Ext.rfl_ _) hS
    rw [filt_all] at this
    exact this
  have x3 : Ext W w3 := X3.out
  refine (SeqV.lift hov (h0W.trans (by with_reducible (repeat (first | exact Ext.rfl_ _ | assumption | refine Ext.drew ?_ | refine Ext.drewN ?_ _ | refine Ext.alloc ?_ _ | refine Ext.trans ?_ (by assumption))))) (by with_reducible (repeat (first | exact Ext.rfl_ _ | assumption | refine Ext.drew ?_ | refine Ext.drewN ?_ _ | refine Ext.alloc ?_ _ | refine Ext.trans ?_ (by assumption)))) hJ hJx hY hJ0).mono ?_
  rintro e w' ⟨⟨v, rfl⟩, hend⟩
  gi_wp2
  go_end0
  exact ⟨⟨_, rfl⟩, hend⟩

set_option maxRecDepth 100000 in
set_option maxHeartbeats 4000000 in
theorem level1_no (gl gn : Nat) (n : Int) (g h : Nat) (L : List Nd) (S : Nat → Prop) (w00 w0 : World) (s : SkL w00 g h L) (h0 : Ext w00 w0) (hn : ¬ (0 ≤ n ∧ n < 8)) (hl : w0.cell? ⟨gl, 0, none⟩ = some (.pointer (some ⟨g, 0, none⟩))) (hnc : w0.cell? ⟨gn, 0, none⟩ = some (.int .i64 n)) :
    SeqT Try.prog 51 #[.pointer (some ⟨gl, 0, none⟩), .pointer (some ⟨gn, 0, none⟩)] OkN S [] w0 := by
  intro num l J Jx W hW hJ hJx hY hJ0
  have h0W := h0.trans hW
  have hlW := hW.keeps' hl
  have hkW := hW.keeps' hnc
  have HS := Lib.hid s
  clear s hl hnc
  refine callsIn_of_wp Try.func51 rfl trivial ?_ rfl
  simp only [Try.ntmps51, List.size_toArray, List.length_cons, List.length_nil, Nat.reduceAdd, Nat.reduceSub, Array.replicate_succ, Array.replicate_zero, List.push_toArray, List.append_toArray, List.nil_append, List.cons_append]
  gi_wp2
  refine ⟨trivial, fun h => (by simp [Fence.wide] at h), ?_⟩
  refine (callsIn_wide.2 (there_any g h L W (HS.out.ext h0W))).mono ?_
  rintro e w' ⟨rfl, hw'⟩
  rw [hw']
  clear hw'
  by_cases h1 : 0 ≤ n
  · have h2 : ¬ n < 8 := fun h => hn ⟨h1, h⟩
    gi_wp2
    go_end0
    exact ⟨⟨_, rfl⟩, .inl ⟨_, hJ0⟩⟩
  · gi_wp2
    go_end0
    exact ⟨⟨_, rfl⟩, .inl ⟨_, hJ0⟩⟩

set_option maxRecDepth 100000 in
set_option maxHeartbeats 4000000 in
theorem levelH_seq (gl gn n : Nat) (hn : n < 8) (g h : Nat) (L : List Nd) (S : Nat → Prop) (w00 w0 : World) (s : SkL w00 g h L) (h0 : Ext w00 w0) (hS : ∀ k, S k → w00.heap.size ≤ k) (hl : w0.cell? ⟨gl, 0, none⟩ = some (.pointer (some ⟨g, 0, none⟩))) (hnc : w0.cell? ⟨gn, 0, none⟩ = some (.int .i64 n)) :
    SeqTT Try.prog 51 #[.pointer (some ⟨gl, 0, none⟩), .pointer (some ⟨gn, 0, none⟩)] OkH S ((L.filter fun nd => decide (n < ht nd.x)).map Nd.x) w0 := by
  intro num l J Jx W hW hJ hJx hY hJ0
  have h0W := h0.trans hW
  have hlW := hW.keeps' hl
  have hkW := hW.keeps' hnc
  have HS := Lib.hid s
  clear s hl hnc
  have hn8 : (n : Int) < 8 := by omega
  have hn0 : (0 : Int) ≤ (n : Int) := by omega
  refine callsIn_of_wp Try.func51 rfl trivial ?_ rfl
  simp only [Try.ntmps51, List.size_toArray, List.length_cons, List.length_nil, Nat.reduceAdd, Nat.reduceSub, Array.replicate_succ, Array.replicate_zero, List.push_toArray, List.append_toArray, List.nil_append, List.cons_append]
  gi_wp2
  refine ⟨trivial, fun h => (by simp [Fence.wide] at h), ?_⟩
  refine (callsIn_wide.2 (there_any g h L W (HS.out.ext h0W))).mono ?_
  rintro e w' ⟨rfl, hw'⟩
  rw [hw']
  clear hw'
  have hli := (HS.out.ext h0W).list
  have c0 : W.cell? ⟨g, 0, none⟩ = some (.pointer (some ⟨h, 0, none⟩)) := by rw [cell_at hli]; rfl
  have hhd := (HS.out.ext h0W).sk.head
  have c4 : W.cell? ⟨h, 4 + n, none⟩ = some (nx n L) := by rw [nd_cell ⟨_, _, _, _, rfl⟩ hhd n hn, nxs, if_pos hn]
  have hov := overH_seq n hn g h L [] L S w00 w00 HS.out rfl (Ext.rfl_ _) hS
  clear hli hhd
  gi_wp2
  refine wpIn_region_any (by kernel_rfl) ?_
  (try (change wpAnyIn _ _ _ _ _ _ _ _ _ (World.drew _)))
  refine wpAnyIn_take (i := 10) (oi := ({ dst := some 24, op := Go.Op.move (Go.Operand.tmp 0), type := 72, pos := "skip.go:119", after := #[], guard := none } : Go.Oper)) (v := ?v1) rfl rfl (by kernel_rfl) (by kernel_rfl) (by kernel_rfl) (fun _ _ _ h => h) ⟨Or.inl ⟨by rfl, ?hy1⟩, fun _ => rfl⟩ ?rest1
  case hy1 => (intro w; go_simp; (try with_reducible rfl))
  (try simp only [Act.put, List.getElem_toArray, List.getElem_cons_zero, List.getElem_cons_succ, List.setIfInBounds_toArray, List.set_cons_zero, List.set_cons_succ])
  refine wpAnyIn_ready (rs := [0, 4, 9]) (by kernel_rfl) (by simp) ?_
  refine AllReadyIn.cons (o := ({ dst := some 14, op := Go.Op.load 28 (Go.Operand.tmp 1), type := 28, pos := "skip.go:119", after := #[], guard := none } : Go.Oper)) rfl (fun K hK => ?one2) ?more2
  case' one2 =>
    go_simp
    refine hK _ _ ?_
    clear hK K
    (try simp only [Act.put, List.getElem_toArray, List.getElem_cons_zero, List.getElem_cons_succ, List.setIfInBounds_toArray, List.set_cons_zero, List.set_cons_succ])
    refine wpAnyIn_ready (rs := [1, 4, 9]) (by kernel_rfl) (by simp) ?_
    refine AllReadyIn.cons (o := ({ dst := some 15, op := Go.Op.nilCheck (Go.Operand.tmp 14), type := 0, pos := "skip.go:119", after := #[{ on := 0, ground := Go.Ground.data }], guard := none } : Go.Oper)) rfl (fun K hK => ?one3) ?more3
    case' one3 =>
      go_simp
      refine hK _ _ ?_
      clear hK K
      (try simp only [Act.put, List.getElem_toArray, List.getElem_cons_zero, List.getElem_cons_succ, List.setIfInBounds_toArray, List.set_cons_zero, List.set_cons_succ])
      refine wpAnyIn_take (i := 2) (oi := ({ dst := some 16, op := Go.Op.fieldAddr 65 (Go.Operand.tmp 15) 0, type := 0, pos := "skip.go:119", after := #[{ on := 1, ground := Go.Ground.data }], guard := none } : Go.Oper)) (v := ?v4) rfl rfl (by kernel_rfl) (by kernel_rfl) (by kernel_rfl) (fun _ _ _ h => h) ⟨Or.inl ⟨by rfl, ?hy4⟩, fun _ => rfl⟩ ?rest4
      case hy4 => (intro w; go_simp; (try with_reducible rfl))
      (try simp only [Act.put, List.getElem_toArray, List.getElem_cons_zero, List.getElem_cons_succ, List.setIfInBounds_toArray, List.set_cons_zero, List.set_cons_succ])
      refine wpAnyIn_ready (rs := [3, 4, 9]) (by kernel_rfl) (by simp) ?_
      refine AllReadyIn.cons (o := ({ dst := some 17, op := Go.Op.load 63 (Go.Operand.tmp 16), type := 63, pos := "skip.go:119", after := #[{ on := 2, ground := Go.Ground.data }], guard := none } : Go.Oper)) rfl (fun K hK => ?one5) ?more5
      case' one5 =>
        go_simp
        refine hK _ _ ?_
        clear hK K
        (try simp only [Act.put, List.getElem_toArray, List.getElem_cons_zero, List.getElem_cons_succ, List.setIfInBounds_toArray, List.set_cons_zero, List.set_cons_succ])
        refine wpAnyIn_ready (rs := [4, 5, 9]) (by kernel_rfl) (by simp) ?_
        refine AllReadyIn.cons (o := ({ dst := some 18, op := Go.Op.load 3 (Go.Operand.tmp 2), type := 3, pos := "skip.go:119", after := #[], guard := none } : Go.Oper)) rfl (fun K hK => ?one6) ?more6
        case' one6 =>
          go_simp
          refine hK _ _ ?_
          clear hK K
          (try simp only [Act.put, List.getElem_toArray, List.getElem_cons_zero, List.getElem_cons_succ, List.setIfInBounds_toArray, List.set_cons_zero, List.set_cons_succ])
          refine wpAnyIn_ready (rs := [5, 9]) (by kernel_rfl) (by simp) ?_
          refine AllReadyIn.cons (o := ({ dst := some 19, op := Go.Op.nilCheck (Go.Operand.tmp 17), type := 0, pos := "skip.go:119", after := #[{ on := 3, ground := Go.Ground.data }], guard := none } : Go.Oper)) rfl (fun K hK => ?one7) ?more7
          case' one7 =>
            go_simp
            refine hK _ _ ?_
            clear hK K
            (try simp only [Act.put, List.getElem_toArray, List.getElem_cons_zero, List.getElem_cons_succ, List.setIfInBounds_toArray, List.set_cons_zero, List.set_cons_succ])
            refine wpAnyIn_take (i := 6) (oi := ({ dst := some 20, op := Go.Op.fieldAddr 79 (Go.Operand.tmp 19) 1, type := 0, pos := "skip.go:119", after := #[{ on := 5, ground := Go.Ground.data }], guard := none } : Go.Oper)) (v := ?v8) rfl rfl (by kernel_rfl) (by kernel_rfl) (by kernel_rfl) (fun _ _ _ h => h) ⟨Or.inl ⟨by rfl, ?hy8⟩, fun _ => rfl⟩ ?rest8
            case hy8 => (intro w; go_simp; (try with_reducible rfl))
            (try simp only [Act.put, List.getElem_toArray, List.getElem_cons_zero, List.getElem_cons_succ, List.setIfInBounds_toArray, List.set_cons_zero, List.set_cons_succ])
            refine wpAnyIn_take (i := 7) (oi := ({ dst := some 21, op := Go.Op.indexAddr 73 (Go.Operand.tmp 20) (Go.Operand.tmp 18), type := 0, pos := "skip.go:119", after := #[{ on := 6, ground := Go.Ground.data }, { on := 4, ground := Go.Ground.data }], guard := none } : Go.Oper)) (v := ?v9) rfl rfl (by kernel_rfl) (by kernel_rfl) (by kernel_rfl) (fun _ _ _ h => h) ⟨Or.inl ⟨by rfl, ?hy9⟩, fun _ => rfl⟩ ?rest9
            case hy9 => (intro w; go_simp; (try with_reducible rfl))
            (try simp only [Act.put, List.getElem_toArray, List.getElem_cons_zero, List.getElem_cons_succ, List.setIfInBounds_toArray, List.set_cons_zero, List.set_cons_succ])
            refine wpAnyIn_ready (rs := [8, 9]) (by kernel_rfl) (by simp) ?_
            refine AllReadyIn.cons (o := ({ dst := some 22, op := Go.Op.load 63 (Go.Operand.tmp 21), type := 63, pos := "skip.go:119", after := #[{ on := 7, ground := Go.Ground.data }], guard := none } : Go.Oper)) rfl (fun K hK => ?one10) ?more10
            case' one10 =>
              go_simp
              refine hK _ _ ?_
              clear hK K
              (try simp only [Act.put, List.getElem_toArray, List.getElem_cons_zero, List.getElem_cons_succ, List.setIfInBounds_toArray, List.set_cons_zero, List.set_cons_succ])
              refine wpAnyIn_ready (rs := [9]) (by kernel_rfl) (by simp) ?_
              refine AllReadyIn.cons (o := ({ dst := some 23, op := Go.Op.load 3 (Go.Operand.tmp 2), type := 3, pos := "skip.go:119", after := #[], guard := none } : Go.Oper)) rfl (fun K hK => ?_) AllReadyIn.nil
              go_simp
              refine hK _ _ ?_
              clear hK K
              (try simp only [Act.put, List.getElem_toArray, List.getElem_cons_zero, List.getElem_cons_succ, List.setIfInBounds_toArray, List.set_cons_zero, List.set_cons_succ])
              refine wpAnyIn_ready (rs := [11]) (by kernel_rfl) (by simp) ?_
              refine AllReadyIn.cons (o := ({ dst := some 25, op := Go.Op.call { callee := Go.Callee.value (Go.Operand.func 46), args := #[Go.Operand.tmp 22, Go.Operand.tmp 23, Go.Operand.tmp 24], argTypes := #[63, 3, 72] }, type := 0, pos := "skip.go:119", after := #[{ on := 8, ground := Go.Ground.data }, { on := 9, ground := Go.Ground.data }, { on := 10, ground := Go.Ground.data }], guard := none } : Go.Oper)) rfl (fun K hK => ?_) AllReadyIn.nil
              go_simp
              refine ⟨trivial, fun h => (by simp [Fence.wide] at h), ?_⟩; have xw : Ext W W.drew := Ext.drew (Ext.rfl_ _); refine (hov _ _ J Jx W.drew (h0W.trans xw) hJ hJx hY (hJ _ _ _ _ _ hJ0 (Kept.of_ext xw) (fun _ h => h) (fun _ h => .inl h))).mono ?_; rintro e w' ⟨⟨v, rfl⟩, hend⟩
              refine hK _ _ ?_
              clear hK K
              (try simp only [Act.put, List.getElem_toArray, List.getElem_cons_zero, List.getElem_cons_succ, List.setIfInBounds_toArray, List.set_cons_zero, List.set_cons_succ])
              refine wpAnyIn_done (by kernel_rfl) ?_ _
            case' more10 =>
              refine AllReadyIn.cons (o := ({ dst := some 23, op := Go.Op.load 3 (Go.Operand.tmp 2), type := 3, pos := "skip.go:119", after := #[], guard := none } : Go.Oper)) rfl (fun K hK => ?_) AllReadyIn.nil
              go_simp
              refine hK _ _ ?_
              clear hK K
              (try simp only [Act.put, List.getElem_toArray, List.getElem_cons_zero, List.getElem_cons_succ, List.setIfInBounds_toArray, List.set_cons_zero, List.set_cons_succ])
              refine wpAnyIn_ready (rs := [8]) (by kernel_rfl) (by simp) ?_
              refine AllReadyIn.cons (o := ({ dst := some 22, op := Go.Op.load 63 (Go.Operand.tmp 21), type := 63, pos := "skip.go:119", after := #[{ on := 7, ground := Go.Ground.data }], guard := none } : Go.Oper)) rfl (fun K hK => ?_) AllReadyIn.nil
              go_simp
              refine hK _ _ ?_
              clear hK K
              (try simp only [Act.put, List.getElem_toArray, List.getElem_cons_zero, List.getElem_cons_succ, List.setIfInBounds_toArray, List.set_cons_zero, List.set_cons_succ])
              refine wpAnyIn_ready (rs := [11]) (by kernel_rfl) (by simp) ?_
              refine AllReadyIn.cons (o := ({ dst := some 25, op := Go.Op.call { callee := Go.Callee.value (Go.Operand.func 46), args := #[Go.Operand.tmp 22, Go.Operand.tmp 23, Go.Operand.tmp 24], argTypes := #[63, 3, 72] }, type := 0, pos := "skip.go:119", after := #[{ on := 8, ground := Go.Ground.data }, { on := 9, ground := Go.Ground.data }, { on := 10, ground := Go.Ground.data }], guard := none } : Go.Oper)) rfl (fun K hK => ?_) AllReadyIn.nil
              go_simp
              refine ⟨trivial, fun h => (by simp [Fence.wide] at h), ?_⟩; have xw : Ext W W.drew := Ext.drew (Ext.rfl_ _); refine (hov _ _ J Jx W.drew (h0W.trans xw) hJ hJx hY (hJ _ _ _ _ _ hJ0 (Kept.of_ext xw) (fun _ h => h) (fun _ h => .inl h))).mono ?_; rintro e w' ⟨⟨v, rfl⟩, hend⟩
              refine hK _ _ ?_
              clear hK K
              (try simp only [Act.put, List.getElem_toArray, List.getElem_cons_zero, List.getElem_cons_succ, List.setIfInBounds_toArray, List.set_cons_zero, List.set_cons_succ])
              refine wpAnyIn_done (by kernel_rfl) ?_ _
          case' more7 =>
            refine AllReadyIn.cons (o := ({ dst := some 23, op := Go.Op.load 3 (Go.Operand.tmp 2), type := 3, pos := "skip.go:119", after := #[], guard := none } : Go.Oper)) rfl (fun K hK => ?_) AllReadyIn.nil
            go_simp
            refine hK _ _ ?_
            clear hK K
            (try simp only [Act.put, List.getElem_toArray, List.getElem_cons_zero, List.getElem_cons_succ, List.setIfInBounds_toArray, List.set_cons_zero, List.set_cons_succ])
            refine wpAnyIn_ready (rs := [5]) (by kernel_rfl) (by simp) ?_
            refine AllReadyIn.cons (o := ({ dst := some 19, op := Go.Op.nilCheck (Go.Operand.tmp 17), type := 0, pos := "skip.go:119", after := #[{ on := 3, ground := Go.Ground.data }], guard := none } : Go.Oper)) rfl (fun K hK => ?_) AllReadyIn.nil
            go_simp
            refine hK _ _ ?_
            clear hK K
            (try simp only [Act.put, List.getElem_toArray, List.getElem_cons_zero, List.getElem_cons_succ, List.setIfInBounds_toArray, List.set_cons_zero, List.set_cons_succ])
            refine wpAnyIn_take (i := 6) (oi := ({ dst := some 20, op := Go.Op.fieldAddr 79 (Go.Operand.tmp 19) 1, type := 0, pos := "skip.go:119", after := #[{ on := 5, ground := Go.Ground.data }], guard := none } : Go.Oper)) (v := ?v11) rfl rfl (by kernel_rfl) (by kernel_rfl) (by kernel_rfl) (fun _ _ _ h => h) ⟨Or.inl ⟨by rfl, ?hy11⟩, fun _ => rfl⟩ ?rest11
            case hy11 => (intro w; go_simp; (try with_reducible rfl))
            (try simp only [Act.put, List.getElem_toArray, List.getElem_cons_zero, List.getElem_cons_succ, List.setIfInBounds_toArray, List.set_cons_zero, List.set_cons_succ])
            refine wpAnyIn_take (i := 7) (oi := ({ dst := some 21, op := Go.Op.indexAddr 73 (Go.Operand.tmp 20) (Go.Operand.tmp 18), type := 0, pos := "skip.go:119", after := #[{ on := 6, ground := Go.Ground.data }, { on := 4, ground := Go.Ground.data }], guard := none } : Go.Oper)) (v := ?v12) rfl rfl (by kernel_rfl) (by kernel_rfl) (by kernel_rfl) (fun _ _ _ h => h) ⟨Or.inl ⟨by rfl, ?hy12⟩, fun _ => rfl⟩ ?rest12
            case hy12 => (intro w; go_simp; (try with_reducible rfl))
            (try simp only [Act.put, List.getElem_toArray, List.getElem_cons_zero, List.getElem_cons_succ, List.setIfInBounds_toArray, List.set_cons_zero, List.set_cons_succ])
            refine wpAnyIn_ready (rs := [8]) (by kernel_rfl) (by simp) ?_
            refine AllReadyIn.cons (o := ({ dst := some 22, op := Go.Op.load 63 (Go.Operand.tmp 21), type := 63, pos := "skip.go:119", after := #[{ on := 7, ground := Go.Ground.data }], guard := none } : Go.Oper)) rfl (fun K hK => ?_) AllReadyIn.nil
            go_simp
            refine hK _ _ ?_
            clear hK K
            (try simp only [Act.put, List.getElem_toArray, List.getElem_cons_zero, List.getElem_cons_succ, List.setIfInBounds_toArray, List.set_cons_zero, List.set_cons_succ])
            refine wpAnyIn_ready (rs := [11]) (by kernel_rfl) (by simp) ?_
            refine AllReadyIn.cons (o := ({ dst := some 25, op := Go.Op.call { callee := Go.Callee.value (Go.Operand.func 46), args := #[Go.Operand.tmp 22, Go.Operand.tmp 23, Go.Operand.tmp 24], argTypes := #[63, 3, 72] }, type := 0, pos := "skip.go:119", after := #[{ on := 8, ground := Go.Ground.data }, { on := 9, ground := Go.Ground.data }, { on := 10, ground := Go.Ground.data }], guard := none } : Go.Oper)) rfl (fun K hK => ?_) AllReadyIn.nil
            go_simp
            refine ⟨trivial, fun h => (by simp [Fence.wide] at h), ?_⟩; have xw : Ext W W.drew := Ext.drew (Ext.rfl_ _); refine (hov _ _ J Jx W.drew (h0W.trans xw) hJ hJx hY (hJ _ _ _ _ _ hJ0 (Kept.of_ext xw) (fun _ h => h) (fun _ h => .inl h))).mono ?_; rintro e w' ⟨⟨v, rfl⟩, hend⟩
            refine hK _ _ ?_
            clear hK K
            (try simp only [Act.put, List.getElem_toArray, List.getElem_cons_zero, List.getElem_cons_succ, List.setIfInBounds_toArray, List.set_cons_zero, List.set_cons_succ])
            refine wpAnyIn_done (by kernel_rfl) ?_ _
        case' more6 =>
          refine AllReadyIn.cons (o := ({ dst := some 19, op := Go.Op.nilCheck (Go.Operand.tmp 17), type := 0, pos := "skip.go:119", after := #[{ on := 3, ground := Go.Ground.data }], guard := none } : Go.Oper)) rfl (fun K hK => ?one13) ?more13
          case' one13 =>
            go_simp
            refine hK _ _ ?_
            clear hK K
            (try simp only [Act.put, List.getElem_toArray, List.getElem_cons_zero, List.getElem_cons_succ, List.setIfInBounds_toArray, List.set_cons_zero, List.set_cons_succ])
            refine wpAnyIn_take (i := 6) (oi := ({ dst := some 20, op := Go.Op.fieldAddr 79 (Go.Operand.tmp 19) 1, type := 0, pos := "skip.go:119", after := #[{ on := 5, ground := Go.Ground.data }], guard := none } : Go.Oper)) (v := ?v14) rfl rfl (by kernel_rfl) (by kernel_rfl) (by kernel_rfl) (fun _ _ _ h => h) ⟨Or.inl ⟨by rfl, ?hy14⟩, fun _ => rfl⟩ ?rest14
            case hy14 => (intro w; go_simp; (try with_reducible rfl))
            (try simp only [Act.put, List.getElem_toArray, List.getElem_cons_zero, List.getElem_cons_succ, List.setIfInBounds_toArray, List.set_cons_zero, List.set_cons_succ])
            refine wpAnyIn_ready (rs := [4, 9]) (by kernel_rfl) (by simp) ?_
            refine AllReadyIn.cons (o := ({ dst := some 18, op := Go.Op.load 3 (Go.Operand.tmp 2), type := 3, pos := "skip.go:119", after := #[], guard := none } : Go.Oper)) rfl (fun K hK => ?one15) ?more15
            case' one15 =>
              go_simp
              refine hK _ _ ?_
              clear hK K
              (try simp only [Act.put, List.getElem_toArray, List.getElem_cons_zero, List.getElem_cons_succ, List.setIfInBounds_toArray, List.set_cons_zero, List.set_cons_succ])
              refine wpAnyIn_take (i := 7) (oi := ({ dst := some 21, op := Go.Op.indexAddr 73 (Go.Operand.tmp 20) (Go.Operand.tmp 18), type := 0, pos := "skip.go:119", after := #[{ on := 6, ground := Go.Ground.data }, { on := 4, ground := Go.Ground.data }], guard := none } : Go.Oper)) (v := ?v16) rfl rfl (by kernel_rfl) (by kernel_rfl) (by kernel_rfl) (fun _ _ _ h => h) ⟨Or.inl ⟨by rfl, ?hy16⟩, fun _ => rfl⟩ ?rest16
              case hy16 => (intro w; go_simp; (try with_reducible rfl))
              (try simp only [Act.put, List.getElem_toArray, List.getElem_cons_zero, List.getElem_cons_succ, List.setIfInBounds_toArray, List.set_cons_zero, List.set_cons_succ])
              refine wpAnyIn_ready (rs := [8, 9]) (by kernel_rfl) (by simp) ?_
              refine AllReadyIn.cons (o := ({ dst := some 22, op := Go.Op.load 63 (Go.Operand.tmp 21), type := 63, pos := "skip.go:119", after := #[{ on := 7, ground := Go.Ground.data }], guard := none } : Go.Oper)) rfl (fun K hK => ?one17) ?more17
              case' one17 =>
                go_simp
                refine hK _ _ ?_
                clear hK K
                (try simp only [Act.put, List.getElem_toArray, List.getElem_cons_zero, List.getElem_cons_succ, List.setIfInBounds_toArray, List.set_cons_zero, List.set_cons_succ])
                refine wpAnyIn_ready (rs := [9]) (by kernel_rfl) (by simp) ?_
                refine AllReadyIn.cons (o := ({ dst := some 23, op := Go.Op.load 3 (Go.Operand.tmp 2), type := 3, pos := "skip.go:119", after := #[], guard := none } : Go.Oper)) rfl (fun K hK => ?_) AllReadyIn.nil
                go_simp
                refine hK _ _ ?_
                clear hK K
                (try simp only [Act.put, List.getElem_toArray, List.getElem_cons_zero, List.getElem_cons_succ, List.setIfInBounds_toArray, List.set_cons_zero, List.set_cons_succ])
                refine wpAnyIn_ready (rs := [11]) (by kernel_rfl) (by simp) ?_
                refine AllReadyIn.cons (o := ({ dst := some 25, op := Go.Op.call { callee := Go.Callee.value (Go.Operand.func 46), args := #[Go.Operand.tmp 22, Go.Operand.tmp 23, Go.Operand.tmp 24], argTypes := #[63, 3, 72] }, type := 0, pos := "skip.go:119", after := #[{ on := 8, ground := Go.Ground.data }, { on := 9, ground := Go.Ground.data }, { on := 10, ground := Go.Ground.data }], guard := none } : Go.Oper)) rfl (fun K hK => ?_) AllReadyIn.nil
                go_simp
                refine ⟨trivial, fun h => (by simp [Fence.wide] at h), ?_⟩; have xw : Ext W W.drew := Ext.drew (Ext.rfl_ _); refine (hov _ _ J Jx W.drew (h0W.trans xw) hJ hJx hY (hJ _ _ _ _ _ hJ0 (Kept.of_ext xw) (fun _ h => h) (fun _ h => .inl h))).mono ?_; rintro e w' ⟨⟨v, rfl⟩, hend⟩
                refine hK _ _ ?_
                clear hK K
                (try simp only [Act.put, List.getElem_toArray, List.getElem_cons_zero, List.getElem_cons_succ, List.setIfInBounds_toArray, List.set_cons_zero, List.set_cons_succ])
                refine wpAnyIn_done (by kernel_rfl) ?_ _
              case' more17 =>
                refine AllReadyIn.cons (o := ({ dst := some 23, op := Go.Op.load 3 (Go.Operand.tmp 2), type := 3, pos := "skip.go:119", after := #[], guard := none } : Go.Oper)) rfl (fun K hK => ?_) AllReadyIn.nil
                go_simp
                refine hK _ _ ?_
                clear hK K
                (try simp only [Act.put, List.getElem_toArray, List.getElem_cons_zero, List.getElem_cons_succ, List.setIfInBounds_toArray, List.set_cons_zero, List.set_cons_succ])
                refine wpAnyIn_ready (rs := [8]) (by kernel_rfl) (by simp) ?_
                refine AllReadyIn.cons (o := ({ dst := some 22, op := Go.Op.load 63 (Go.Operand.tmp 21), type := 63, pos := "skip.go:119", after := #[{ on := 7, ground := Go.Ground.data }], guard := none } : Go.Oper)) rfl (fun K hK => ?_) AllReadyIn.nil
                go_simp
                refine hK _ _ ?_
                clear hK K
                (try simp only [Act.put, List.getElem_toArray, List.getElem_cons_zero, List.getElem_cons_succ, List.setIfInBounds_toArray, List.set_cons_zero, List.set_cons_succ])
                refine wpAnyIn_ready (rs := [11]) (by kernel_rfl) (by simp) ?_
                refine AllReadyIn.cons (o := ({ dst := some 25, op := Go.Op.call { callee := Go.Callee.value (Go.Operand.func 46), args := #[Go.Operand.tmp 22, Go.Operand.tmp 23, Go.Operand.tmp 24], argTypes := #[63, 3, 72] }, type := 0, pos := "skip.go:119", after := #[{ on := 8, ground := Go.Ground.data }, { on := 9, ground := Go.Ground.data }, { on := 10, ground := Go.Ground.data }], guard := none } : Go.Oper)) rfl (fun K hK => ?_) AllReadyIn.nil
                go_simp
                refine ⟨trivial, fun h => (by simp [Fence.wide] at h), ?_⟩; have xw : Ext W W.drew := Ext.drew (Ext.rfl_ _); refine (hov _ _ J Jx W.drew (h0W.trans xw) hJ hJx hY (hJ _ _ _ _ _ hJ0 (Kept.of_ext xw) (fun _ h => h) (fun _ h => .inl h))).mono ?_; rintro e w' ⟨⟨v, rfl⟩, hend⟩
                refine hK _ _ ?_
                clear hK K
                (try simp only [Act.put, List.getElem_toArray, List.getElem_cons_zero, List.getElem_cons_succ, List.setIfInBounds_toArray, List.set_cons_zero, List.set_cons_succ])
                refine wpAnyIn_done (by kernel_rfl) ?_ _
            case' more15 =>
              refine AllReadyIn.cons (o := ({ dst := some 23, op := Go.Op.load 3 (Go.Operand.tmp 2), type := 3, pos := "skip.go:119", after := #[], guard := none } : Go.Oper)) rfl (fun K hK => ?_) AllReadyIn.nil
              go_simp
              refine hK _ _ ?_
              clear hK K
              (try simp only [Act.put, List.getElem_toArray, List.getElem_cons_zero, List.getElem_cons_succ, List.setIfInBounds_toArray, List.set_cons_zero, List.set_cons_succ])
              refine wpAnyIn_ready (rs := [4]) (by kernel_rfl) (by simp) ?_
              refine AllReadyIn.cons (o := ({ dst := some 18, op := Go.Op.load 3 (Go.Operand.tmp 2), type := 3, pos := "skip.go:119", after := #[], guard := none } : Go.Oper)) rfl (fun K hK => ?_) AllReadyIn.nil
              go_simp
              refine hK _ _ ?_
              clear hK K
              (try simp only [Act.put, List.getElem_toArray, List.getElem_cons_zero, List.getElem_cons_succ, List.setIfInBounds_toArray, List.set_cons_zero, List.set_cons_succ])
              refine wpAnyIn_take (i := 7) (oi := ({ dst := some 21, op := Go.Op.indexAddr 73 (Go.Operand.tmp 20) (Go.Operand.tmp 18), type := 0, pos := "skip.go:119", after := #[{ on := 6, ground := Go.Ground.data }, { on := 4, ground := Go.Ground.data }], guard := none } : Go.Oper)) (v := ?v18) rfl rfl (by kernel_rfl) (by kernel_rfl) (by kernel_rfl) (fun _ _ _ h => h) ⟨Or.inl ⟨by rfl, ?hy18⟩, fun _ => rfl⟩ ?rest18
              case hy18 => (intro w; go_simp; (try with_reducible rfl))
              (try simp only [Act.put, List.getElem_toArray, List.getElem_cons_zero, List.getElem_cons_succ, List.setIfInBounds_toArray, List.set_cons_zero, List.set_cons_succ])
              refine wpAnyIn_ready (rs := [8]) (by kernel_rfl) (by simp) ?_
              refine AllReadyIn.cons (o := ({ dst := some 22, op := Go.Op.load 63 (Go.Operand.tmp 21), type := 63, pos := "skip.go:119", after := #[{ on := 7, ground := Go.Ground.data }], guard := none } : Go.Oper)) rfl (fun K hK => ?_) AllReadyIn.nil
              go_simp
              refine hK _ _ ?_
              clear hK K
              (try simp only [Act.put, List.getElem_toArray, List.getElem_cons_zero, List.getElem_cons_succ, List.setIfInBounds_toArray, List.set_cons_zero, List.set_cons_succ])
              refine wpAnyIn_ready (rs := [11]) (by kernel_rfl) (by simp) ?_
              refine AllReadyIn.cons (o := ({ dst := some 25, op := Go.Op.call { callee := Go.Callee.value (Go.Operand.func 46), args := #[Go.Operand.tmp 22, Go.Operand.tmp 23, Go.Operand.tmp 24], argTypes := #[63, 3, 72] }, type := 0, pos := "skip.go:119", after := #[{ on := 8, ground := Go.Ground.data }, { on := 9, ground := Go.Ground.data }, { on := 10, ground := Go.Ground.data }], guard := none } : Go.Oper)) rfl (fun K hK => ?_) AllReadyIn.nil
              go_simp
              refine ⟨trivial, fun h => (by simp [Fence.wide] at h), ?_⟩; have xw : Ext W W.drew := Ext.drew (Ext.rfl_ _); refine (hov _ _ J Jx W.drew (h0W.trans xw) hJ hJx hY (hJ _ _ _ _ _ hJ0 (Kept.of_ext xw) (fun _ h => h) (fun _ h => .inl h))).mono ?_; rintro e w' ⟨⟨v, rfl⟩, hend⟩
              refine hK _ _ ?_
              clear hK K
              (try simp only [Act.put, List.getElem_toArray, List.getElem_cons_zero, List.getElem_cons_succ, List.setIfInBounds_toArray, List.set_cons_zero, List.set_cons_succ])
              refine wpAnyIn_done (by kernel_rfl) ?_ _
          case' more13 =>
            refine AllReadyIn.cons (o := ({ dst := some 23, op := Go.Op.load 3 (Go.Operand.tmp 2), type := 3, pos := "skip.go:119", after := #[], guard := none } : Go.Oper)) rfl (fun K hK => ?_) AllReadyIn.nil
            go_simp
            refine hK _ _ ?_
            clear hK K
            (try simp only [Act.put, List.getElem_toArray, List.getElem_cons_zero, List.getElem_cons_succ, List.setIfInBounds_toArray, List.set_cons_zero, List.set_cons_succ])
            refine wpAnyIn_ready (rs := [4, 5]) (by kernel_rfl) (by simp) ?_
            refine AllReadyIn.cons (o := ({ dst := some 18, op := Go.Op.load 3 (Go.Operand.tmp 2), type := 3, pos := "skip.go:119", after := #[], guard := none } : Go.Oper)) rfl (fun K hK => ?one19) ?more19
            case' one19 =>
              go_simp
              refine hK _ _ ?_
              clear hK K
              (try simp only [Act.put, List.getElem_toArray, List.getElem_cons_zero, List.getElem_cons_succ, List.setIfInBounds_toArray, List.set_cons_zero, List.set_cons_succ])
              refine wpAnyIn_ready (rs := [5]) (by kernel_rfl) (by simp) ?_
              refine AllReadyIn.cons (o := ({ dst := some 19, op := Go.Op.nilCheck (Go.Operand.tmp 17), type := 0, pos := "skip.go:119", after := #[{ on := 3, ground := Go.Ground.data }], guard := none } : Go.Oper)) rfl (fun K hK => ?_) AllReadyIn.nil
              go_simp
              refine hK _ _ ?_
              clear hK K
              (try simp only [Act.put, List.getElem_toArray, List.getElem_cons_zero, List.getElem_cons_succ, List.setIfInBounds_toArray, List.set_cons_zero, List.set_cons_succ])
              refine wpAnyIn_take (i := 6) (oi := ({ dst := some 20, op := Go.Op.fieldAddr 79 (Go.Operand.tmp 19) 1, type := 0, pos := "skip.go:119", after := #[{ on := 5, ground := Go.Ground.data }], guard := none } : Go.Oper)) (v := ?v20) rfl rfl (by kernel_rfl) (by kernel_rfl) (by kernel_rfl) (fun _ _ _ h => h) ⟨Or.inl ⟨by rfl, ?hy20⟩, fun _ => rfl⟩ ?rest20
              case hy20 => (intro w; go_simp; (try with_reducible rfl))
              (try simp only [Act.put, List.getElem_toArray, List.getElem_cons_zero, List.getElem_cons_succ, List.setIfInBounds_toArray, List.set_cons_zero, List.set_cons_succ])
              refine wpAnyIn_take (i := 7) (oi := ({ dst := some 21, op := Go.Op.indexAddr 73 (Go.Operand.tmp 20) (Go.Operand.tmp 18), type := 0, pos := "skip.go:119", after := #[{ on := 6, ground := Go.Ground.data }, { on := 4, ground := Go.Ground.data }], guard := none } : Go.Oper)) (v := ?v21) rfl rfl (by kernel_rfl) (by kernel_rfl) (by kernel_rfl) (fun _ _ _ h => h) ⟨Or.inl ⟨by rfl, ?hy21⟩, fun _ => rfl⟩ ?rest21
              case hy21 => (intro w; go_simp; (try with_reducible rfl))
              (try simp only [Act.put, List.getElem_toArray, List.getElem_cons_zero, List.getElem_cons_succ, List.setIfInBounds_toArray, List.set_cons_zero, List.set_cons_succ])
              refine wpAnyIn_ready (rs := [8]) (by kernel_rfl) (by simp) ?_
              refine AllReadyIn.cons (o := ({ dst := some 22, op := Go.Op.load 63 (Go.Operand.tmp 21), type := 63, pos := "skip.go:119", after := #[{ on := 7, ground := Go.Ground.data }], guard := none } : Go.Oper)) rfl (fun K hK => ?_) AllReadyIn.nil
              go_simp
              refine hK _ _ ?_
              clear hK K
              (try simp only [Act.put, List.getElem_toArray, List.getElem_cons_zero, List.getElem_cons_succ, List.setIfInBounds_toArray, List.set_cons_zero, List.set_cons_succ])
              refine wpAnyIn_ready (rs := [11]) (by kernel_rfl) (by simp) ?_
              refine AllReadyIn.cons (o := ({ dst := some 25, op := Go.Op.call { callee := Go.Callee.value (Go.Operand.func 46), args := #[Go.Operand.tmp 22, Go.Operand.tmp 23, Go.Operand.tmp 24], argTypes := #[63, 3, 72] }, type := 0, pos := "skip.go:119", after := #[{ on := 8, ground := Go.Ground.data }, { on := 9, ground := Go.Ground.data }, { on := 10, ground := Go.Ground.data }], guard := none } : Go.Oper)) rfl (fun K hK => ?_) AllReadyIn.nil
              go_simp
              refine ⟨trivial, fun h => (by simp [Fence.wide] at h), ?_⟩; have xw : Ext W W.drew := Ext.drew (Ext.rfl_ _); refine (hov _ _ J Jx W.drew (h0W.trans xw) hJ hJx hY (hJ _ _ _ _ _ hJ0 (Kept.of_ext xw) (fun _ h => h) (fun _ h => .inl h))).mono ?_; rintro e w' ⟨⟨v, rfl⟩, hend⟩
              refine hK _ _ ?_
              clear hK K
              (try simp only [Act.put, List.getElem_toArray, List.getElem_cons_zero, List.getElem_cons_succ, List.setIfInBounds_toArray, List.set_cons_zero, List.set_cons_succ])
              refine wpAnyIn_done (by kernel_rfl) ?_ _
            case' more19 =>
              refine AllReadyIn.cons (o := ({ dst := some 19, op := Go.Op.nilCheck (Go.Operand.tmp 17), type := 0, pos := "skip.go:119", after := #[{ on := 3, ground := Go.Ground.data }], guard := none } : Go.Oper)) rfl (fun K hK => ?_) AllReadyIn.nil
              go_simp
              refine hK _ _ ?_
              clear hK K
              (try simp only [Act.put, List.getElem_toArray, List.getElem_cons_zero, List.getElem_cons_succ, List.setIfInBounds_toArray, List.set_cons_zero, List.set_cons_succ])
              refine wpAnyIn_take (i := 6) (oi := ({ dst := some 20, op := Go.Op.fieldAddr 79 (Go.Operand.tmp 19) 1, type := 0, pos := "skip.go:119", after := #[{ on := 5, ground := Go.Ground.data }], guard := none } : Go.Oper)) (v := ?v22) rfl rfl (by kernel_rfl) (by kernel_rfl) (by kernel_rfl) (fun _ _ _ h => h) ⟨Or.inl ⟨by rfl, ?hy22⟩, fun _ => rfl⟩ ?rest22
              case hy22 => (intro w; go_simp; (try with_reducible rfl))
              (try simp only [Act.put, List.getElem_toArray, List.getElem_cons_zero, List.getElem_cons_succ, List.setIfInBounds_toArray, List.set_cons_zero, List.set_cons_succ])
              refine wpAnyIn_ready (rs := [4]) (by kernel_rfl) (by simp) ?_
              refine AllReadyIn.cons (o := ({ dst := some 18, op := Go.Op.load 3 (Go.Operand.tmp 2), type := 3, pos := "skip.go:119", after := #[], guard := none } : Go.Oper)) rfl (fun K hK => ?_) AllReadyIn.nil
              go_simp
              refine hK _ _ ?_
              clear hK K
              (try simp only [Act.put, List.getElem_toArray, List.getElem_cons_zero, List.getElem_cons_succ, List.setIfInBounds_toArray, List.set_cons_zero, List.set_cons_succ])
              refine wpAnyIn_take (i := 7) (oi := ({ dst := some 21, op := Go.Op.indexAddr 73 (Go.Operand.tmp 20) (Go.Operand.tmp 18), type := 0, pos := "skip.go:119", after := #[{ on := 6, ground := Go.Ground.data }, { on := 4, ground := Go.Ground.data }], guard := none } : Go.Oper)) (v := ?v23) rfl rfl (by kernel_rfl) (by kernel_rfl) (by kernel_rfl) (fun _ _ _ h => h) ⟨Or.inl ⟨by rfl, ?hy23⟩, fun _ => rfl⟩ ?rest23
              case hy23 => (intro w; go_simp; (try with_reducible rfl))
              (try simp only [Act.put, List.getElem_toArray, List.getElem_cons_zero, List.getElem_cons_succ, List.setIfInBounds_toArray, List.set_cons_zero, List.set_cons_succ])
              refine wpAnyIn_ready (rs := [8]) (by kernel_rfl) (by simp) ?_
              refine AllReadyIn.cons (o := ({ dst := some 22, op := Go.Op.load 63 (Go.Operand.tmp 21), type := 63, pos := "skip.go:119", after := #[{ on := 7, ground := Go.Ground.data }], guard := none } : Go.Oper)) rfl (fun K hK => ?_) AllReadyIn.nil
              go_simp
              refine hK _ _ ?_
              clear hK K
              (try simp only [Act.put, List.getElem_toArray, List.getElem_cons_zero, List.getElem_cons_succ, List.setIfInBounds_toArray, List.set_cons_zero, List.set_cons_succ])
              refine wpAnyIn_ready (rs := [11]) (by kernel_rfl) (by simp) ?_
              refine AllReadyIn.cons (o := ({ dst := some 25, op := Go.Op.call { callee := Go.Callee.value (Go.Operand.func 46), args := #[Go.Operand.tmp 22, Go.Operand.tmp 23, Go.Operand.tmp 24], argTypes := #[63, 3, 72] }, type := 0, pos := "skip.go:119", after := #[{ on := 8, ground := Go.Ground.data }, { on := 9, ground := Go.Ground.data }, { on := 10, ground := Go.Ground.data }], guard := none } : Go.Oper)) rfl (fun K hK => ?_) AllReadyIn.nil
              go_simp
              refine ⟨trivial, fun h => (by simp [Fence.wide] at h), ?_⟩; have xw : Ext W W.drew := Ext.drew (Ext.rfl_ _); refine (hov _ _ J Jx W.drew (h0W.trans xw) hJ hJx hY (hJ _ _ _ _ _ hJ0 (Kept.of_ext xw) (fun _ h => h) (fun _ h => .inl h))).mono ?_; rintro e w' ⟨⟨v, rfl⟩, hend⟩
              refine hK _ _ ?_
              clear hK K
              (try simp only [Act.put, List.getElem_toArray, List.getElem_cons_zero, List.getElem_cons_succ, List.setIfInBounds_toArray, List.set_cons_zero, List.set_cons_succ])
              refine wpAnyIn_done (by kernel_rfl) ?_ _
      case' more5 =>
        refine AllReadyIn.cons (o := ({ dst := some 18, op := Go.Op.load 3 (Go.Operand.tmp 2), type := 3, pos := "skip.go:119", after := #[], guard := none } : Go.Oper)) rfl (fun K hK => ?one24) ?more24
        case' one24 =>
          go_simp
          refine hK _ _ ?_
          clear hK K
          (try simp only [Act.put, List.getElem_toArray, List.getElem_cons_zero, List.getElem_cons_succ, List.setIfInBounds_toArray, List.set_cons_zero, List.set_cons_succ])
          refine wpAnyIn_ready (rs := [3, 9]) (by kernel_rfl) (by simp) ?_
          refine AllReadyIn.cons (o := ({ dst := some 17, op := Go.Op.load 63 (Go.Operand.tmp 16), type := 63, pos := "skip.go:119", after := #[{ on := 2, ground := Go.Ground.data }], guard := none } : Go.Oper)) rfl (fun K hK => ?one25) ?more25
          case' one25 =>
            go_simp
            refine hK _ _ ?_
            clear hK K
            (try simp only [Act.put, List.getElem_toArray, List.getElem_cons_zero, List.getElem_cons_succ, List.setIfInBounds_toArray, List.set_cons_zero, List.set_cons_succ])
            refine wpAnyIn_ready (rs := [5, 9]) (by kernel_rfl) (by simp) ?_
            refine AllReadyIn.cons (o := ({ dst := some 19, op := Go.Op.nilCheck (Go.Operand.tmp 17), type := 0, pos := "skip.go:119", after := #[{ on := 3, ground := Go.Ground.data }], guard := none } : Go.Oper)) rfl (fun K hK => ?one26) ?more26
            case' one26 =>
              go_simp
              refine hK _ _ ?_
              clear hK K
              (try simp only [Act.put, List.getElem_toArray, List.getElem_cons_zero, List.getElem_cons_succ, List.setIfInBounds_toArray, List.set_cons_zero, List.set_cons_succ])
              refine wpAnyIn_take (i := 6) (oi := ({ dst := some 20, op := Go.Op.fieldAddr 79 (Go.Operand.tmp 19) 1, type := 0, pos := "skip.go:119", after := #[{ on := 5, ground := Go.Ground.data }], guard := none } : Go.Oper)) (v := ?v27) rfl rfl (by kernel_rfl) (by kernel_rfl) (by kernel_rfl) (fun _ _ _ h => h) ⟨Or.inl ⟨by rfl, ?hy27⟩, fun _ => rfl⟩ ?rest27
              case hy27 => (intro w; go_simp; (try with_reducible rfl))
              (try simp only [Act.put, List.getElem_toArray, List.getElem_cons_zero, List.getElem_cons_succ, List.setIfInBounds_toArray, List.set_cons_zero, List.set_cons_succ])
              refine wpAnyIn_take (i := 7) (oi := ({ dst := some 21, op := Go.Op.indexAddr 73 (Go.Operand.tmp 20) (Go.Operand.tmp 18), type := 0, pos := "skip.go:119", after := #[{ on := 6, ground := Go.Ground.data }, { on := 4, ground := Go.Ground.data }], guard := none } : Go.Oper)) (v := ?v28) rfl rfl (by kernel_rfl) (by kernel_rfl) (by kernel_rfl) (fun _ _ _ h => h) ⟨Or.inl ⟨by rfl, ?hy28⟩, fun _ => rfl⟩ ?rest28
              case hy28 => (intro w; go_simp; (try with_reducible rfl))
              (try simp only [Act.put, List.getElem_toArray, List.getElem_cons_zero, List.getElem_cons_succ, List.setIfInBounds_toArray, List.set_cons_zero, List.set_cons_succ])
              refine wpAnyIn_ready (rs := [8, 9]) (by kernel_rfl) (by simp) ?_
              refine AllReadyIn.cons (o := ({ dst := some 22, op := Go.Op.load 63 (Go.Operand.tmp 21), type := 63, pos := "skip.go:119", after := #[{ on := 7, ground := Go.Ground.data }], guard := none } : Go.Oper)) rfl (fun K hK => ?one29) ?more29
              case' one29 =>
                go_simp
                refine hK _ _ ?_
                clear hK K
                (try simp only [Act.put, List.getElem_toArray, List.getElem_cons_zero, List.getElem_cons_succ, List.setIfInBounds_toArray, List.set_cons_zero, List.set_cons_succ])
                refine wpAnyIn_ready (rs := [9]) (by kernel_rfl) (by simp) ?_
                refine AllReadyIn.cons (o := ({ dst := some 23, op := Go.Op.load 3 (Go.Operand.tmp 2), type := 3, pos := "skip.go:119", after := #[], guard := none } : Go.Oper)) rfl (fun K hK => ?_) AllReadyIn.nil
                go_simp
                refine hK _ _ ?_
                clear hK K
                (try simp only [Act.put, List.getElem_toArray, List.getElem_cons_zero, List.getElem_cons_succ, List.setIfInBounds_toArray, List.set_cons_zero, List.set_cons_succ])
                refine wpAnyIn_ready (rs := [11]) (by kernel_rfl) (by simp) ?_
                refine AllReadyIn.cons (o := ({ dst := some 25, op := Go.Op.call { callee := Go.Callee.value (Go.Operand.func 46), args := #[Go.Operand.tmp 22, Go.Operand.tmp 23, Go.Operand.tmp 24], argTypes := #[63, 3, 72] }, type := 0, pos := "skip.go:119", after := #[{ on := 8, ground := Go.Ground.data }, { on := 9, ground := Go.Ground.data }, { on := 10, ground := Go.Ground.data }], guard := none } : Go.Oper)) rfl (fun K hK => ?_) AllReadyIn.nil
                go_simp
                refine ⟨trivial, fun h => (by simp [Fence.wide] at h), ?_⟩; have xw : Ext W W.drew := Ext.drew (Ext.rfl_ _); refine (hov _ _ J Jx W.drew (h0W.trans xw) hJ hJx hY (hJ _ _ _ _ _ hJ0 (Kept.of_ext xw) (fun _ h => h) (fun _ h => .inl h))).mono ?_; rintro e w' ⟨⟨v, rfl⟩, hend⟩
                refine hK _ _ ?_
                clear hK K
                (try simp only [Act.put, List.getElem_toArray, List.getElem_cons_zero, List.getElem_cons_succ, List.setIfInBounds_toArray, List.set_cons_zero, List.set_cons_succ])
                refine wpAnyIn_done (by kernel_rfl) ?_ _
              case' more29 =>
                refine AllReadyIn.cons (o := ({ dst := some 23, op := Go.Op.load 3 (Go.Operand.tmp 2), type := 3, pos := "skip.go:119", after := #[], guard := none } : Go.Oper)) rfl (fun K hK => ?_) AllReadyIn.nil
                go_simp
                refine hK _ _ ?_
                clear hK K
                (try simp only [Act.put, List.getElem_toArray, List.getElem_cons_zero, List.getElem_cons_succ, List.setIfInBounds_toArray, List.set_cons_zero, List.set_cons_succ])
                refine wpAnyIn_ready (rs := [8]) (by kernel_rfl) (by simp) ?_
                refine AllReadyIn.cons (o := ({ dst := some 22, op := Go.Op.load 63 (Go.Operand.tmp 21), type := 63, pos := "skip.go:119", after := #[{ on := 7, ground := Go.Ground.data }], guard := none } : Go.Oper)) rfl (fun K hK => ?_) AllReadyIn.nil
                go_simp
                refine hK _ _ ?_
                clear hK K
                (try simp only [Act.put, List.getElem_toArray, List.getElem_cons_zero, List.getElem_cons_succ, List.setIfInBounds_toArray, List.set_cons_zero, List.set_cons_succ])
                refine wpAnyIn_ready (rs := [11]) (by kernel_rfl) (by simp) ?_
                refine AllReadyIn.cons (o := ({ dst := some 25, op := Go.Op.call { callee := Go.Callee.value (Go.Operand.func 46), args := #[Go.Operand.tmp 22, Go.Operand.tmp 23, Go.Operand.tmp 24], argTypes := #[63, 3, 72] }, type := 0, pos := "skip.go:119", after := #[{ on := 8, ground := Go.Ground.data }, { on := 9, ground := Go.Ground.data }, { on := 10, ground := Go.Ground.data }], guard := none } : Go.Oper)) rfl (fun K hK => ?_) AllReadyIn.nil
                go_simp
                refine ⟨trivial, fun h => (by simp [Fence.wide] at h), ?_⟩; have xw : Ext W W.drew := Ext.drew (Ext.rfl_ _); refine (hov _ _ J Jx W.drew (h0W.trans xw) hJ hJx hY (hJ _ _ _ _ _ hJ0 (Kept.of_ext xw) (fun _ h => h) (fun _ h => .inl h))).mono ?_; rintro e w' ⟨⟨v, rfl⟩, hend⟩
                refine hK _ _ ?_
                clear hK K
                (try simp only [Act.put, List.getElem_toArray, List.getElem_cons_zero, List.getElem_cons_succ, List.setIfInBounds_toArray, List.set_cons_zero, List.set_cons_succ])
                refine wpAnyIn_done (by kernel_rfl) ?_ _
            case' more26 =>
              refine AllReadyIn.cons (o := ({ dst := some 23, op := Go.Op.load 3 (Go.Operand.tmp 2), type := 3, pos := "skip.go:119", after := #[], guard := none } : Go.Oper)) rfl (fun K hK => ?_) AllReadyIn.nil
              go_simp
              refine hK _ _ ?_
              clear hK K
              (try simp only [Act.put, List.getElem_toArray, List.getElem_cons_zero, List.getElem_cons_succ, List.setIfInBounds_toArray, List.set_cons_zero, List.set_cons_succ])
              refine wpAnyIn_ready (rs := [5]) (by kernel_rfl) (by simp) ?_
              refine AllReadyIn.cons (o := ({ dst := some 19, op := Go.Op.nilCheck (Go.Operand.tmp 17), type := 0, pos := "skip.go:119", after := #[{ on := 3, ground := Go.Ground.data }], guard := none } : Go.Oper)) rfl (fun K hK => ?_) AllReadyIn.nil
              go_simp
              refine hK _ _ ?_
              clear hK K
              (try simp only [Act.put, List.getElem_toArray, List.getElem_cons_zero, List.getElem_cons_succ, List.setIfInBounds_toArray, List.set_cons_zero, List.set_cons_succ])
              refine wpAnyIn_take (i := 6) (oi := ({ dst := some 20, op := Go.Op.fieldAddr 79 (Go.Operand.tmp 19) 1, type := 0, pos := "skip.go:119", after := #[{ on := 5, ground := Go.Ground.data }], guard := none } : Go.Oper)) (v := ?v30) rfl rfl (by kernel_rfl) (by kernel_rfl) (by kernel_rfl) (fun _ _ _ h => h) ⟨Or.inl ⟨by rfl, ?hy30⟩, fun _ => rfl⟩ ?rest30
              case hy30 => (intro w; go_simp; (try with_reducible rfl))
              (try simp only [Act.put, List.getElem_toArray, List.getElem_cons_zero, List.getElem_cons_succ, List.setIfInBounds_toArray, List.set_cons_zero, List.set_cons_succ])
              refine wpAnyIn_take (i := 7) (oi := ({ dst := some 21, op := Go.Op.indexAddr 73 (Go.Operand.tmp 20) (Go.Operand.tmp 18), type := 0, pos := "skip.go:119", after := #[{ on := 6, ground := Go.Ground.data }, { on := 4, ground := Go.Ground.data }], guard := none } : Go.Oper)) (v := ?v31) rfl rfl (by kernel_rfl) (by kernel_rfl) (by kernel_rfl) (fun _ _ _ h => h) ⟨Or.inl ⟨by rfl, ?hy31⟩, fun _ => rfl⟩ ?rest31
              case hy31 => (intro w; go_simp; (try with_reducible rfl))
              (try simp only [Act.put, List.getElem_toArray, List.getElem_cons_zero, List.getElem_cons_succ, List.setIfInBounds_toArray, List.set_cons_zero, List.set_cons_succ])
              refine wpAnyIn_ready (rs := [8]) (by kernel_rfl) (by simp) ?_
              refine AllReadyIn.cons (o := ({ dst := some 22, op := Go.Op.load 63 (Go.Operand.tmp 21), type := 63, pos := "skip.go:119", after := #[{ on := 7, ground := Go.Ground.data }], guard := none } : Go.Oper)) rfl (fun K hK => ?_) AllReadyIn.nil
              go_simp
              refine hK _ _ ?_
              clear hK K
              (try simp only [Act.put, List.getElem_toArray, List.getElem_cons_zero, List.getElem_cons_succ, List.setIfInBounds_toArray, List.set_cons_zero, List.set_cons_succ])
              refine wpAnyIn_ready (rs := [11]) (by kernel_rfl) (by simp) ?_
              refine AllReadyIn.cons (o := ({ dst := some 25, op := Go.Op.call { callee := Go.Callee.value (Go.Operand.func 46), args := #[Go.Operand.tmp 22, Go.Operand.tmp 23, Go.Operand.tmp 24], argTypes := #[63, 3, 72] }, type := 0, pos := "skip.go:119", after := #[{ on := 8, ground := Go.Ground.data }, { on := 9, ground := Go.Ground.data }, { on := 10, ground := Go.Ground.data }], guard := none } : Go.Oper)) rfl (fun K hK => ?_) AllReadyIn.nil
              go_simp
              refine ⟨trivial, fun h => (by simp [Fence.wide] at h), ?_⟩; have xw : Ext W W.drew := Ext.drew (Ext.rfl_ _); refine (hov _ _ J Jx W.drew (h0W.trans xw) hJ hJx hY (hJ _ _ _ _ _ hJ0 (Kept.of_ext xw) (fun _ h => h) (fun _ h => .inl h))).mono ?_; rintro e w' ⟨⟨v, rfl⟩, hend⟩
              refine hK _ _ ?_
              clear hK K
              (try simp only [Act.put, List.getElem_toArray, List.getElem_cons_zero, List.getElem_cons_succ, List.setIfInBounds_toArray, List.set_cons_zero, List.set_cons_succ])
              refine wpAnyIn_done (by kernel_rfl) ?_ _
          case' more25 =>
            refine AllReadyIn.cons (o := ({ dst := some 23, op := Go.Op.load 3 (Go.Operand.tmp 2), type := 3, pos := "skip.go:119", after := #[], guard := none } : Go.Oper)) rfl (fun K hK => ?_) AllReadyIn.nil
            go_simp
            refine hK _ _ ?_
            clear hK K
            (try simp only [Act.put, List.getElem_toArray, List.getElem_cons_zero, List.getElem_cons_succ, List.setIfInBounds_toArray, List.set_cons_zero, List.set_cons_succ])
            refine wpAnyIn_ready (rs := [3]) (by kernel_rfl) (by simp) ?_
            refine AllReadyIn.cons (o := ({ dst := some 17, op := Go.Op.load 63 (Go.Operand.tmp 16), type := 63, pos := "skip.go:119", after := #[{ on := 2, ground := Go.Ground.data }], guard := none } : Go.Oper)) rfl (fun K hK => ?_) AllReadyIn.nil
            go_simp
            refine hK _ _ ?_
            clear hK K
            (try simp only [Act.put, List.getElem_toArray, List.getElem_cons_zero, List.getElem_cons_succ, List.setIfInBounds_toArray, List.set_cons_zero, List.set_cons_succ])
            refine wpAnyIn_ready (rs := [5]) (by kernel_rfl) (by simp) ?_
            refine AllReadyIn.cons (o := ({ dst := some 19, op := Go.Op.nilCheck (Go.Operand.tmp 17), type := 0, pos := "skip.go:119", after := #[{ on := 3, ground := Go.Ground.data }], guard := none } : Go.Oper)) rfl (fun K hK => ?_) AllReadyIn.nil
            go_simp
            refine hK _ _ ?_
            clear hK K
            (try simp only [Act.put, List.getElem_toArray, List.getElem_cons_zero, List.getElem_cons_succ, List.setIfInBounds_toArray, List.set_cons_zero, List.set_cons_succ])
            refine wpAnyIn_take (i := 6) (oi := ({ dst := some 20, op := Go.Op.fieldAddr 79 (Go.Operand.tmp 19) 1, type := 0, pos := "skip.go:119", after := #[{ on := 5, ground := Go.Ground.data }], guard := none } : Go.Oper)) (v := ?v32) rfl rfl (by kernel_rfl) (by kernel_rfl) (by kernel_rfl) (fun _ _ _ h => h) ⟨Or.inl ⟨by rfl, ?hy32⟩, fun _ => rfl⟩ ?rest32
            case hy32 => (intro w; go_simp; (try with_reducible rfl))
            (try simp only [Act.put, List.getElem_toArray, List.getElem_cons_zero, List.getElem_cons_succ, List.setIfInBounds_toArray, List.set_cons_zero, List.set_cons_succ])
            refine wpAnyIn_take (i := 7) (oi := ({ dst := some 21, op := Go.Op.indexAddr 73 (Go.Operand.tmp 20) (Go.Operand.tmp 18), type := 0, pos := "skip.go:119", after := #[{ on := 6, ground := Go.Ground.data }, { on := 4, ground := Go.Ground.data }], guard := none } : Go.Oper)) (v := ?v33) rfl rfl (by kernel_rfl) (by kernel_rfl) (by kernel_rfl) (fun _ _ _ h => h) ⟨Or.inl ⟨by rfl, ?hy33⟩, fun _ => rfl⟩ ?rest33
            case hy33 => (intro w; go_simp; (try with_reducible rfl))
            (try simp only [Act.put, List.getElem_toArray, List.getElem_cons_zero, List.getElem_cons_succ, List.setIfInBounds_toArray, List.set_cons_zero, List.set_cons_succ])
            refine wpAnyIn_ready (rs := [8]) (by kernel_rfl) (by simp) ?_
            refine AllReadyIn.cons (o := ({ dst := some 22, op := Go.Op.load 63 (Go.Operand.tmp 21), type := 63, pos := "skip.go:119", after := #[{ on := 7, ground := Go.Ground.data }], guard := none } : Go.Oper)) rfl (fun K hK => ?_) AllReadyIn.nil
            go_simp
            refine hK _ _ ?_
            clear hK K
            (try simp only [Act.put, List.getElem_toArray, List.getElem_cons_zero, List.getElem_cons_succ, List.setIfInBounds_toArray, List.set_cons_zero, List.set_cons_succ])
            refine wpAnyIn_ready (rs := [11]) (by kernel_rfl) (by simp) ?_
            refine AllReadyIn.cons (o := ({ dst := some 25, op := Go.Op.call { callee := Go.Callee.value (Go.Operand.func 46), args := #[Go.Operand.tmp 22, Go.Operand.tmp 23, Go.Operand.tmp 24], argTypes := #[63, 3, 72] }, type := 0, pos := "skip.go:119", after := #[{ on := 8, ground := Go.Ground.data }, { on := 9, ground := Go.Ground.data }, { on := 10, ground := Go.Ground.data }], guard := none } : Go.Oper)) rfl (fun K hK => ?_) AllReadyIn.nil
            go_simp
            refine ⟨trivial, fun h => (by simp [Fence.wide] at h), ?_⟩; have xw : Ext W W.drew := Ext.drew (Ext.rfl_ _); refine (hov _ _ J Jx W.drew (h0W.trans xw) hJ hJx hY (hJ _ _ _ _ _ hJ0 (Kept.of_ext xw) (fun _ h => h) (fun _ h => .inl h))).mono ?_; rintro e w' ⟨⟨v, rfl⟩, hend⟩
            refine hK _ _ ?_
            clear hK K
            (try simp only [Act.put, List.getElem_toArray, List.getElem_cons_zero, List.getElem_cons_succ, List.setIfInBounds_toArray, List.set_cons_zero, List.set_cons_succ])
            refine wpAnyIn_done (by kernel_rfl) ?_ _
        case' more24 =>
          refine AllReadyIn.cons (o := ({ dst := some 23, op := Go.Op.load 3 (Go.Operand.tmp 2), type := 3, pos := "skip.go:119", after := #[], guard := none } : Go.Oper)) rfl (fun K hK => ?_) AllReadyIn.nil
          go_simp
          refine hK _ _ ?_
          clear hK K
          (try simp only [Act.put, List.getElem_toArray, List.getElem_cons_zero, List.getElem_cons_succ, List.setIfInBounds_toArray, List.set_cons_zero, List.set_cons_succ])
          refine wpAnyIn_ready (rs := [3, 4]) (by kernel_rfl) (by simp) ?_
          refine AllReadyIn.cons (o := ({ dst := some 17, op := Go.Op.load 63 (Go.Operand.tmp 16), type := 63, pos := "skip.go:119", after := #[{ on := 2, ground := Go.Ground.data }], guard := none } : Go.Oper)) rfl (fun K hK => ?one34) ?more34
          case' one34 =>
            go_simp
            refine hK _ _ ?_
            clear hK K
            (try simp only [Act.put, List.getElem_toArray, List.getElem_cons_zero, List.getElem_cons_succ, List.setIfInBounds_toArray, List.set_cons_zero, List.set_cons_succ])
            refine wpAnyIn_ready (rs := [4, 5]) (by kernel_rfl) (by simp) ?_
            refine AllReadyIn.cons (o := ({ dst := some 18, op := Go.Op.load 3 (Go.Operand.tmp 2), type := 3, pos := "skip.go:119", after := #[], guard := none } : Go.Oper)) rfl (fun K hK => ?one35) ?more35
            case' one35 =>
              go_simp
              refine hK _ _ ?_
              clear hK K
              (try simp only [Act.put, List.getElem_toArray, List.getElem_cons_zero, List.getElem_cons_succ, List.setIfInBounds_toArray, List.set_cons_zero, List.set_cons_succ])
              refine wpAnyIn_ready (rs := [5]) (by kernel_rfl) (by simp) ?_
              refine AllReadyIn.cons (o := ({ dst := some 19, op := Go.Op.nilCheck (Go.Operand.tmp 17), type := 0, pos := "skip.go:119", after := #[{ on := 3, ground := Go.Ground.data }], guard := none } : Go.Oper)) rfl (fun K hK => ?_) AllReadyIn.nil
              go_simp
              refine hK _ _ ?_
              clear hK K
              (try simp only [Act.put, List.getElem_toArray, List.getElem_cons_zero, List.getElem_cons_succ, List.setIfInBounds_toArray, List.set_cons_zero, List.set_cons_succ])
              refine wpAnyIn_take (i := 6) (oi := ({ dst := some 20, op := Go.Op.fieldAddr 79 (Go.Operand.tmp 19) 1, type := 0, pos := "skip.go:119", after := #[{ on := 5, ground := Go.Ground.data }], guard := none } : Go.Oper)) (v := ?v36) rfl rfl (by kernel_rfl) (by kernel_rfl) (by kernel_rfl) (fun _ _ _ h => h) ⟨Or.inl ⟨by rfl, ?hy36⟩, fun _ => rfl⟩ ?rest36
              case hy36 => (intro w; go_simp; (try with_reducible rfl))
              (try simp only [Act.put, List.getElem_toArray, List.getElem_cons_zero, List.getElem_cons_succ, List.setIfInBounds_toArray, List.set_cons_zero, List.set_cons_succ])
              refine wpAnyIn_take (i := 7) (oi := ({ dst := some 21, op := Go.Op.indexAddr 73 (Go.Operand.tmp 20) (Go.Operand.tmp 18), type := 0, pos := "skip.go:119", after := #[{ on := 6, ground := Go.Ground.data }, { on := 4, ground := Go.Ground.data }], guard := none } : Go.Oper)) (v := ?v37) rfl rfl (by kernel_rfl) (by kernel_rfl) (by kernel_rfl) (fun _ _ _ h => h) ⟨Or.inl ⟨by rfl, ?hy37⟩, fun _ => rfl⟩ ?rest37
              case hy37 => (intro w; go_simp; (try with_reducible rfl))
              (try simp only [Act.put, List.getElem_toArray, List.getElem_cons_zero, List.getElem_cons_succ, List.setIfInBounds_toArray, List.set_cons_zero, List.set_cons_succ])
              refine wpAnyIn_ready (rs := [8]) (by kernel_rfl) (by simp) ?_
              refine AllReadyIn.cons (o := ({ dst := some 22, op := Go.Op.load 63 (Go.Operand.tmp 21), type := 63, pos := "skip.go:119", after := #[{ on := 7, ground := Go.Ground.data }], guard := none } : Go.Oper)) rfl (fun K hK => ?_) AllReadyIn.nil
              go_simp
              refine hK _ _ ?_
              clear hK K
              (try simp only [Act.put, List.getElem_toArray, List.getElem_cons_zero, List.getElem_cons_succ, List.setIfInBounds_toArray, List.set_cons_zero, List.set_cons_succ])
              refine wpAnyIn_ready (rs := [11]) (by kernel_rfl) (by simp) ?_
              refine AllReadyIn.cons (o := ({ dst := some 25, op := Go.Op.call { callee := Go.Callee.value (Go.Operand.func 46), args := #[Go.Operand.tmp 22, Go.Operand.tmp 23, Go.Operand.tmp 24], argTypes := #[63, 3, 72] }, type := 0, pos := "skip.go:119", after := #[{ on := 8, ground := Go.Ground.data }, { on := 9, ground := Go.Ground.data }, { on := 10, ground := Go.Ground.data }], guard := none } : Go.Oper)) rfl (fun K hK => ?_) AllReadyIn.nil
              go_simp
              refine ⟨trivial, fun h => (by simp [Fence.wide] at h), ?_⟩; have xw : Ext W W.drew := Ext.drew (Ext.rfl_ _); refine (hov _ _ J Jx W.drew (h0W.trans xw) hJ hJx hY (hJ _ _ _ _ _ hJ0 (Kept.of_ext xw) (fun _ h => h) (fun _ h => .inl h))).mono ?_; rintro e w' ⟨⟨v, rfl⟩, hend⟩
              refine hK _ _ ?_
              clear hK K
              (try simp only [Act.put, List.getElem_toArray, List.getElem_cons_zero, List.getElem_cons_succ, List.setIfInBounds_toArray, List.set_cons_zero, List.set_cons_succ])
              refine wpAnyIn_done (by kernel_rfl) ?_ _
            case' more35 =>
              refine AllReadyIn.cons (o := ({ dst := some 19, op := Go.Op.nilCheck (Go.Operand.tmp 17), type := 0, pos := "skip.go:119", after := #[{ on := 3, ground := Go.Ground.data }], guard := none } : Go.Oper)) rfl (fun K hK => ?_) AllReadyIn.nil
              go_simp
              refine hK _ _ ?_
              clear hK K
              (try simp only [Act.put, List.getElem_toArray, List.getElem_cons_zero, List.getElem_cons_succ, List.setIfInBounds_toArray, List.set_cons_zero, List.set_cons_succ])
              refine wpAnyIn_take (i := 6) (oi := ({ dst := some 20, op := Go.Op.fieldAddr 79 (Go.Operand.tmp 19) 1, type := 0, pos := "skip.go:119", after := #[{ on := 5, ground := Go.Ground.data }], guard := none } : Go.Oper)) (v := ?v38) rfl rfl (by kernel_rfl) (by kernel_rfl) (by kernel_rfl) (fun _ _ _ h => h) ⟨Or.inl ⟨by rfl, ?hy38⟩, fun _ => rfl⟩ ?rest38
              case hy38 => (intro w; go_simp; (try with_reducible rfl))
              (try simp only [Act.put, List.getElem_toArray, List.getElem_cons_zero, List.getElem_cons_succ, List.setIfInBounds_toArray, List.set_cons_zero, List.set_cons_succ])
              refine wpAnyIn_ready (rs := [4]) (by kernel_rfl) (by simp) ?_
              refine AllReadyIn.cons (o := ({ dst := some 18, op := Go.Op.load 3 (Go.Operand.tmp 2), type := 3, pos := "skip.go:119", after := #[], guard := none } : Go.Oper)) rfl (fun K hK => ?_) AllReadyIn.nil
              go_simp
              refine hK _ _ ?_
              clear hK K
              (try simp only [Act.put, List.getElem_toArray, List.getElem_cons_zero, List.getElem_cons_succ, List.setIfInBounds_toArray, List.set_cons_zero, List.set_cons_succ])
              refine wpAnyIn_take (i := 7) (oi := ({ dst := some 21, op := Go.Op.indexAddr 73 (Go.Operand.tmp 20) (Go.Operand.tmp 18), type := 0, pos := "skip.go:119", after := #[{ on := 6, ground := Go.Ground.data }, { on := 4, ground := Go.Ground.data }], guard := none } : Go.Oper)) (v := ?v39) rfl rfl (by kernel_rfl) (by kernel_rfl) (by kernel_rfl) (fun _ _ _ h => h) ⟨Or.inl ⟨by rfl, ?hy39⟩, fun _ => rfl⟩ ?rest39
              case hy39 => (intro w; go_simp; (try with_reducible rfl))
              (try simp only [Act.put, List.getElem_toArray, List.getElem_cons_zero, List.getElem_cons_succ, List.setIfInBounds_toArray, List.set_cons_zero, List.set_cons_succ])
              refine wpAnyIn_ready (rs := [8]) (by kernel_rfl) (by simp) ?_
              refine AllReadyIn.cons (o := ({ dst := some 22, op := Go.Op.load 63 (Go.Operand.tmp 21), type := 63, pos := "skip.go:119", after := #[{ on := 7, ground := Go.Ground.data }], guard := none } : Go.Oper)) rfl (fun K hK => ?_) AllReadyIn.nil
              go_simp
              refine hK _ _ ?_
              clear hK K
              (try simp only [Act.put, List.getElem_toArray, List.getElem_cons_zero, List.getElem_cons_succ, List.setIfInBounds_toArray, List.set_cons_zero, List.set_cons_succ])
              refine wpAnyIn_ready (rs := [11]) (by kernel_rfl) (by simp) ?_
              refine AllReadyIn.cons (o := ({ dst := some 25, op := Go.Op.call { callee := Go.Callee.value (Go.Operand.func 46), args := #[Go.Operand.tmp 22, Go.Operand.tmp 23, Go.Operand.tmp 24], argTypes := #[63, 3, 72] }, type := 0, pos := "skip.go:119", after := #[{ on := 8, ground := Go.Ground.data }, { on := 9, ground := Go.Ground.data }, { on := 10, ground := Go.Ground.data }], guard := none } : Go.Oper)) rfl (fun K hK => ?_) AllReadyIn.nil
              go_simp
              refine ⟨trivial, fun h => (by simp [Fence.wide] at h), ?_⟩; have xw : Ext W W.drew := Ext.drew (Ext.rfl_ _); refine (hov _ _ J Jx W.drew (h0W.trans xw) hJ hJx hY (hJ _ _ _ _ _ hJ0 (Kept.of_ext xw) (fun _ h => h) (fun _ h => .inl h))).mono ?_; rintro e w' ⟨⟨v, rfl⟩, hend⟩
              refine hK _ _ ?_
              clear hK K
              (try simp only [Act.put, List.getElem_toArray, List.getElem_cons_zero, List.getElem_cons_succ, List.setIfInBounds_toArray, List.set_cons_zero, List.set_cons_succ])
              refine wpAnyIn_done (by kernel_rfl) ?_ _
          case' more34 =>
            refine AllReadyIn.cons (o := ({ dst := some 18, op := Go.Op.load 3 (Go.Operand.tmp 2), type := 3, pos := "skip.go:119", after := #[], guard := none } : Go.Oper)) rfl (fun K hK => ?_) AllReadyIn.nil
            go_simp
            refine hK _ _ ?_
            clear hK K
            (try simp only [Act.put, List.getElem_toArray, List.getElem_cons_zero, List.getElem_cons_succ, List.setIfInBounds_toArray, List.set_cons_zero, List.set_cons_succ])
            refine wpAnyIn_ready (rs := [3]) (by kernel_rfl) (by simp) ?_
            refine AllReadyIn.cons (o := ({ dst := some 17, op := Go.Op.load 63 (Go.Operand.tmp 16), type := 63, pos := "skip.go:119", after := #[{ on := 2, ground := Go.Ground.data }], guard := none } : Go.Oper)) rfl (fun K hK => ?_) AllReadyIn.nil
            go_simp
            refine hK _ _ ?_
            clear hK K
            (try simp only [Act.put, List.getElem_toArray, List.getElem_cons_zero, List.getElem_cons_succ, List.setIfInBounds_toArray, List.set_cons_zero, List.set_cons_succ])
            refine wpAnyIn_ready (rs := [5]) (by kernel_rfl) (by simp) ?_
            refine AllReadyIn.cons (o := ({ dst := some 19, op := Go.Op.nilCheck (Go.Operand.tmp 17), type := 0, pos := "skip.go:119", after := #[{ on := 3, ground := Go.Ground.data }], guard := none } : Go.Oper)) rfl (fun K hK => ?_) AllReadyIn.nil
            go_simp
            refine hK _ _ ?_
            clear hK K
            (try simp only [Act.put, List.getElem_toArray, List.getElem_cons_zero, List.getElem_cons_succ, List.setIfInBounds_toArray, List.set_cons_zero, List.set_cons_succ])
            refine wpAnyIn_take (i := 6) (oi := ({ dst := some 20, op := Go.Op.fieldAddr 79 (Go.Operand.tmp 19) 1, type := 0, pos := "skip.go:119", after := #[{ on := 5, ground := Go.Ground.data }], guard := none } : Go.Oper)) (v := ?v40) rfl rfl (by kernel_rfl) (by kernel_rfl) (by kernel_rfl) (fun _ _ _ h => h) ⟨Or.inl ⟨by rfl, ?hy40⟩, fun _ => rfl⟩ ?rest40
            case hy40 => (intro w; go_simp; (try with_reducible rfl))
            (try simp only [Act.put, List.getElem_toArray, List.getElem_cons_zero, List.getElem_cons_succ, List.setIfInBounds_toArray, List.set_cons_zero, List.set_cons_succ])
            refine wpAnyIn_take (i := 7) (oi := ({ dst := some 21, op := Go.Op.indexAddr 73 (Go.Operand.tmp 20) (Go.Operand.tmp 18), type := 0, pos := "skip.go:119", after := #[{ on := 6, ground := Go.Ground.data }, { on := 4, ground := Go.Ground.data }], guard := none } : Go.Oper)) (v := ?v41) rfl rfl (by kernel_rfl) (by kernel_rfl) (by kernel_rfl) (fun _ _ _ h => h) ⟨Or.inl ⟨by rfl, ?hy41⟩, fun _ => rfl⟩ ?rest41
            case hy41 => (intro w; go_simp; (try with_reducible rfl))
            (try simp only [Act.put, List.getElem_toArray, List.getElem_cons_zero, List.getElem_cons_succ, List.setIfInBounds_toArray, List.set_cons_zero, List.set_cons_succ])
            refine wpAnyIn_ready (rs := [8]) (by kernel_rfl) (by simp) ?_
            refine AllReadyIn.cons (o := ({ dst := some 22, op := Go.Op.load 63 (Go.Operand.tmp 21), type := 63, pos := "skip.go:119", after := #[{ on := 7, ground := Go.Ground.data }], guard := none } : Go.Oper)) rfl (fun K hK => ?_) AllReadyIn.nil
            go_simp
            refine hK _ _ ?_
            clear hK K
            (try simp only [Act.put, List.getElem_toArray, List.getElem_cons_zero, List.getElem_cons_succ, List.setIfInBounds_toArray, List.set_cons_zero, List.set_cons_succ])
            refine wpAnyIn_ready (rs := [11]) (by kernel_rfl) (by simp) ?_
            refine AllReadyIn.cons (o := ({ dst := some 25, op := Go.Op.call { callee := Go.Callee.value (Go.Operand.func 46), args := #[Go.Operand.tmp 22, Go.Operand.tmp 23, Go.Operand.tmp 24], argTypes := #[63, 3, 72] }, type := 0, pos := "skip.go:119", after := #[{ on := 8, ground := Go.Ground.data }, { on := 9, ground := Go.Ground.data }, { on := 10, ground := Go.Ground.data }], guard := none } : Go.Oper)) rfl (fun K hK => ?_) AllReadyIn.nil
            go_simp
            refine ⟨trivial, fun h => (by simp [Fence.wide] at h), ?_⟩; have xw : Ext W W.drew := Ext.drew (Ext.rfl_ _); refine (hov _ _ J Jx W.drew (h0W.trans xw) hJ hJx hY (hJ _ _ _ _ _ hJ0 (Kept.of_ext xw) (fun _ h => h) (fun _ h => .inl h))).mono ?_; rintro e w' ⟨⟨v, rfl⟩, hend⟩
            refine hK _ _ ?_
            clear hK K
            (try simp only [Act.put, List.getElem_toArray, List.getElem_cons_zero, List.getElem_cons_succ, List.setIfInBounds_toArray, List.set_cons_zero, List.set_cons_succ])
            refine wpAnyIn_done (by kernel_rfl) ?_ _
    case' more3 =>
      refine AllReadyIn.cons (o := ({ dst := some 18, op := Go.Op.load 3 (Go.Operand.tmp 2), type := 3, pos := "skip.go:119", after := #[], guard := none } : Go.Oper)) rfl (fun K hK => ?one42) ?more42
      case' one42 =>
        go_simp
        refine hK _ _ ?_
        clear hK K
        (try simp only [Act.put, List.getElem_toArray, List.getElem_cons_zero, List.getElem_cons_succ, List.setIfInBounds_toArray, List.set_cons_zero, List.set_cons_succ])
        refine wpAnyIn_ready (rs := [1, 9]) (by kernel_rfl) (by simp) ?_
        refine AllReadyIn.cons (o := ({ dst := some 15, op := Go.Op.nilCheck (Go.Operand.tmp 14), type := 0, pos := "skip.go:119", after := #[{ on := 0, ground := Go.Ground.data }], guard := none } : Go.Oper)) rfl (fun K hK => ?one43) ?more43
        case' one43 =>
          go_simp
          refine hK _ _ ?_
          clear hK K
          (try simp only [Act.put, List.getElem_toArray, List.getElem_cons_zero, List.getElem_cons_succ, List.setIfInBounds_toArray, List.set_cons_zero, List.set_cons_succ])
          refine wpAnyIn_take (i := 2) (oi := ({ dst := some 16, op := Go.Op.fieldAddr 65 (Go.Operand.tmp 15) 0, type := 0, pos := "skip.go:119", after := #[{ on := 1, ground := Go.Ground.data }], guard := none } : Go.Oper)) (v := ?v44) rfl rfl (by kernel_rfl) (by kernel_rfl) (by kernel_rfl) (fun _ _ _ h => h) ⟨Or.inl ⟨by rfl, ?hy44⟩, fun _ => rfl⟩ ?rest44
          case hy44 => (intro w; go_simp; (try with_reducible rfl))
          (try simp only [Act.put, List.getElem_toArray, List.getElem_cons_zero, List.getElem_cons_succ, List.setIfInBounds_toArray, List.set_cons_zero, List.set_cons_succ])
          refine wpAnyIn_ready (rs := [3, 9]) (by kernel_rfl) (by simp) ?_
          refine AllReadyIn.cons (o := ({ dst := some 17, op := Go.Op.load 63 (Go.Operand.tmp 16), type := 63, pos := "skip.go:119", after := #[{ on := 2, ground := Go.Ground.data }], guard := none } : Go.Oper)) rfl (fun K hK => ?one45) ?more45
          case' one45 =>
            go_simp
            refine hK _ _ ?_
            clear hK K
            (try simp only [Act.put, List.getElem_toArray, List.getElem_cons_zero, List.getElem_cons_succ, List.setIfInBounds_toArray, List.set_cons_zero, List.set_cons_succ])
            refine wpAnyIn_ready (rs := [5, 9]) (by kernel_rfl) (by simp) ?_
            refine AllReadyIn.cons (o := ({ dst := some 19, op := Go.Op.nilCheck (Go.Operand.tmp 17), type := 0, pos := "skip.go:119", after := #[{ on := 3, ground := Go.Ground.data }], guard := none } : Go.Oper)) rfl (fun K hK => ?one46) ?more46
            case' one46 =>
              go_simp
              refine hK _ _ ?_
              clear hK K
              (try simp only [Act.put, List.getElem_toArray, List.getElem_cons_zero, List.getElem_cons_succ, List.setIfInBounds_toArray, List.set_cons_zero, List.set_cons_succ])
              refine wpAnyIn_take (i := 6) (oi := ({ dst := some 20, op := Go.Op.fieldAddr 79 (Go.Operand.tmp 19) 1, type := 0, pos := "skip.go:119", after := #[{ on := 5, ground := Go.Ground.data }], guard := none } : Go.Oper)) (v := ?v47) rfl rfl (by kernel_rfl) (by kernel_rfl) (by kernel_rfl) (fun _ _ _ h => h) ⟨Or.inl ⟨by rfl, ?hy47⟩, fun _ => rfl⟩ ?rest47
              case hy47 => (intro w; go_simp; (try with_reducible rfl))
              (try simp only [Act.put, List.getElem_toArray, List.getElem_cons_zero, List.getElem_cons_succ, List.setIfInBounds_toArray, List.set_cons_zero, List.set_cons_succ])
              refine wpAnyIn_take (i := 7) (oi := ({ dst := some 21, op := Go.Op.indexAddr 73 (Go.Operand.tmp 20) (Go.Operand.tmp 18), type := 0, pos := "skip.go:119", after := #[{ on := 6, ground := Go.Ground.data }, { on := 4, ground := Go.Ground.data }], guard := none } : Go.Oper)) (v := ?v48) rfl rfl (by kernel_rfl) (by kernel_rfl) (by kernel_rfl) (fun _ _ _ h => h) ⟨Or.inl ⟨by rfl, ?hy48⟩, fun _ => rfl⟩ ?rest48
              case hy48 => (intro w; go_simp; (try with_reducible rfl))
              (try simp only [Act.put, List.getElem_toArray, List.getElem_cons_zero, List.getElem_cons_succ, List.setIfInBounds_toArray, List.set_cons_zero, List.set_cons_succ])
              refine wpAnyIn_ready (rs := [8, 9]) (by kernel_rfl) (by simp) ?_
              refine AllReadyIn.cons (o := ({ dst := some 22, op := Go.Op.load 63 (Go.Operand.tmp 21), type := 63, pos := "skip.go:119", after := #[{ on := 7, ground := Go.Ground.data }], guard := none } : Go.Oper)) rfl (fun K hK => ?one49) ?more49
              case' one49 =>
                go_simp
                refine hK _ _ ?_
                clear hK K
                (try simp only [Act.put, List.getElem_toArray, List.getElem_cons_zero, List.getElem_cons_succ, List.setIfInBounds_toArray, List.set_cons_zero, List.set_cons_succ])
                refine wpAnyIn_ready (rs := [9]) (by kernel_rfl) (by simp) ?_
                refine AllReadyIn.cons (o := ({ dst := some 23, op := Go.Op.load 3 (Go.Operand.tmp 2), type := 3, pos := "skip.go:119", after := #[], guard := none } : Go.Oper)) rfl (fun K hK => ?_) AllReadyIn.nil
                go_simp
                refine hK _ _ ?_
                clear hK K
                (try simp only [Act.put, List.getElem_toArray, List.getElem_cons_zero, List.getElem_cons_succ, List.setIfInBounds_toArray, List.set_cons_zero, List.set_cons_succ])
                refine wpAnyIn_ready (rs := [11]) (by kernel_rfl) (by simp) ?_
                refine AllReadyIn.cons (o := ({ dst := some 25, op := Go.Op.call { callee := Go.Callee.value (Go.Operand.func 46), args := #[Go.Operand.tmp 22, Go.Operand.tmp 23, Go.Operand.tmp 24], argTypes := #[63, 3, 72] }, type := 0, pos := "skip.go:119", after := #[{ on := 8, ground := Go.Ground.data }, { on := 9, ground := Go.Ground.data }, { on := 10, ground := Go.Ground.data }], guard := none } : Go.Oper)) rfl (fun K hK => ?_) AllReadyIn.nil
                go_simp
                refine ⟨trivial, fun h => (by simp [Fence.wide] at h), ?_⟩; have xw : Ext W W.drew := Ext.drew (Ext.rfl_ _); refine (hov _ _ J Jx W.drew (h0W.trans xw) hJ hJx hY (hJ _ _ _ _ _ hJ0 (Kept.of_ext xw) (fun _ h => h) (fun _ h => .inl h))).mono ?_; rintro e w' ⟨⟨v, rfl⟩, hend⟩
                refine hK _ _ ?_
                clear hK K
                (try simp only [Act.put, List.getElem_toArray, List.getElem_cons_zero, List.getElem_cons_succ, List.setIfInBounds_toArray, List.set_cons_zero, List.set_cons_succ])
                refine wpAnyIn_done (by kernel_rfl) ?_ _
              case' more49 =>
                refine AllReadyIn.cons (o := ({ dst := some 23, op := Go.Op.load 3 (Go.Operand.tmp 2), type := 3, pos := "skip.go:119", after := #[], guard := none } : Go.Oper)) rfl (fun K hK => ?_) AllReadyIn.nil
                go_simp
                refine hK _ _ ?_
                clear hK K
                (try simp only [Act.put, List.getElem_toArray, List.getElem_cons_zero, List.getElem_cons_succ, List.setIfInBounds_toArray, List.set_cons_zero, List.set_cons_succ])
                refine wpAnyIn_ready (rs := [8]) (by kernel_rfl) (by simp) ?_
                refine AllReadyIn.cons (o := ({ dst := some 22, op := Go.Op.load 63 (Go.Operand.tmp 21), type := 63, pos := "skip.go:119", after := #[{ on := 7, ground := Go.Ground.data }], guard := none } : Go.Oper)) rfl (fun K hK => ?_) AllReadyIn.nil
                go_simp
                refine hK _ _ ?_
                clear hK K
                (try simp only [Act.put, List.getElem_toArray, List.getElem_cons_zero, List.getElem_cons_succ, List.setIfInBounds_toArray, List.set_cons_zero, List.set_cons_succ])
                refine wpAnyIn_ready (rs := [11]) (by kernel_rfl) (by simp) ?_
                refine AllReadyIn.cons (o := ({ dst := some 25, op := Go.Op.call { callee := Go.Callee.value (Go.Operand.func 46), args := #[Go.Operand.tmp 22, Go.Operand.tmp 23, Go.Operand.tmp 24], argTypes := #[63, 3, 72] }, type := 0, pos := "skip.go:119", after := #[{ on := 8, ground := Go.Ground.data }, { on := 9, ground := Go.Ground.data }, { on := 10, ground := Go.Ground.data }], guard := none } : Go.Oper)) rfl (fun K hK => ?_) AllReadyIn.nil
                go_simp
                refine ⟨trivial, fun h => (by simp [Fence.wide] at h), ?_⟩; have xw : Ext W W.drew := Ext.drew (Ext.rfl_ _); refine (hov _ _ J Jx W.drew (h0W.trans xw) hJ hJx hY (hJ _ _ _ _ _ hJ0 (Kept.of_ext xw) (fun _ h => h) (fun _ h => .inl h))).mono ?_; rintro e w' ⟨⟨v, rfl⟩, hend⟩
                refine hK _ _ ?_
                clear hK K
                (try simp only [Act.put, List.getElem_toArray, List.getElem_cons_zero, List.getElem_cons_succ, List.setIfInBounds_toArray, List.set_cons_zero, List.set_cons_succ])
                refine wpAnyIn_done (by kernel_rfl) ?_ _
            case' more46 =>
              refine AllReadyIn.cons (o := ({ dst := some 23, op := Go.Op.load 3 (Go.Operand.tmp 2), type := 3, pos := "skip.go:119", after := #[], guard := none } : Go.Oper)) rfl (fun K hK => ?_) AllReadyIn.nil
              go_simp
              refine hK _ _ ?_
              clear hK K
              (try simp only [Act.put, List.getElem_toArray, List.getElem_cons_zero, List.getElem_cons_succ, List.setIfInBounds_toArray, List.set_cons_zero, List.set_cons_succ])
              refine wpAnyIn_ready (rs := [5]) (by kernel_rfl) (by simp) ?_
              refine AllReadyIn.cons (o := ({ dst := some 19, op := Go.Op.nilCheck (Go.Operand.tmp 17), type := 0, pos := "skip.go:119", after := #[{ on := 3, ground := Go.Ground.data }], guard := none } : Go.Oper)) rfl (fun K hK => ?_) AllReadyIn.nil
              go_simp
              refine hK _ _ ?_
              clear hK K
              (try simp only [Act.put, List.getElem_toArray, List.getElem_cons_zero, List.getElem_cons_succ, List.setIfInBounds_toArray, List.set_cons_zero, List.set_cons_succ])
              refine wpAnyIn_take (i := 6) (oi := ({ dst := some 20, op := Go.Op.fieldAddr 79 (Go.Operand.tmp 19) 1, type := 0, pos := "skip.go:119", after := #[{ on := 5, ground := Go.Ground.data }], guard := none } : Go.Oper)) (v := ?v50) rfl rfl (by kernel_rfl) (by kernel_rfl) (by kernel_rfl) (fun _ _ _ h => h) ⟨Or.inl ⟨by rfl, ?hy50⟩, fun _ => rfl⟩ ?rest50
              case hy50 => (intro w; go_simp; (try with_reducible rfl))
              (try simp only [Act.put, List.getElem_toArray, List.getElem_cons_zero, List.getElem_cons_succ, List.setIfInBounds_toArray, List.set_cons_zero, List.set_cons_succ])
              refine wpAnyIn_take (i := 7) (oi := ({ dst := some 21, op := Go.Op.indexAddr 73 (Go.Operand.tmp 20) (Go.Operand.tmp 18), type := 0, pos := "skip.go:119", after := #[{ on := 6, ground := Go.Ground.data }, { on := 4, ground := Go.Ground.data }], guard := none } : Go.Oper)) (v := ?v51) rfl rfl (by kernel_rfl) (by kernel_rfl) (by kernel_rfl) (fun _ _ _ h => h) ⟨Or.inl ⟨by rfl, ?hy51⟩, fun _ => rfl⟩ ?rest51
              case hy51 => (intro w; go_simp; (try with_reducible rfl))
              (try simp only [Act.put, List.getElem_toArray, List.getElem_cons_zero, List.getElem_cons_succ, List.setIfInBounds_toArray, List.set_cons_zero, List.set_cons_succ])
              refine wpAnyIn_ready (rs := [8]) (by kernel_rfl) (by simp) ?_
              refine AllReadyIn.cons (o := ({ dst := some 22, op := Go.Op.load 63 (Go.Operand.tmp 21), type := 63, pos := "skip.go:119", after := #[{ on := 7, ground := Go.Ground.data }], guard := none } : Go.Oper)) rfl (fun K hK => ?_) AllReadyIn.nil
              go_simp
              refine hK _ _ ?_
              clear hK K
              (try simp only [Act.put, List.getElem_toArray, List.getElem_cons_zero, List.getElem_cons_succ, List.setIfInBounds_toArray, List.set_cons_zero, List.set_cons_succ])
              refine wpAnyIn_ready (rs := [11]) (by kernel_rfl) (by simp) ?_
              refine AllReadyIn.cons (o := ({ dst := some 25, op := Go.Op.call { callee := Go.Callee.value (Go.Operand.func 46), args := #[Go.Operand.tmp 22, Go.Operand.tmp 23, Go.Operand.tmp 24], argTypes := #[63, 3, 72] }, type := 0, pos := "skip.go:119", after := #[{ on := 8, ground := Go.Ground.data }, { on := 9, ground := Go.Ground.data }, { on := 10, ground := Go.Ground.data }], guard := none } : Go.Oper)) rfl (fun K hK => ?_) AllReadyIn.nil
              go_simp
              refine ⟨trivial, fun h => (by simp [Fence.wide] at h), ?_⟩; have xw : Ext W W.drew := Ext.drew (Ext.rfl_ _); refine (hov _ _ J Jx W.drew (h0W.trans xw) hJ hJx hY (hJ _ _ _ _ _ hJ0 (Kept.of_ext xw) (fun _ h => h) (fun _ h => .inl h))).mono ?_; rintro e w' ⟨⟨v, rfl⟩, hend⟩
              refine hK _ _ ?_
              clear hK K
              (try simp only [Act.put, List.getElem_toArray, List.getElem_cons_zero, List.getElem_cons_succ, List.setIfInBounds_toArray, List.set_cons_zero, List.set_cons_succ])
              refine wpAnyIn_done (by kernel_rfl) ?_ _
          case' more45 =>
            refine AllReadyIn.cons (o := ({ dst := some 23, op := Go.Op.load 3 (Go.Operand.tmp 2), type := 3, pos := "skip.go:119", after := #[], guard := none } : Go.Oper)) rfl (fun K hK => ?_) AllReadyIn.nil
            go_simp
            refine hK _ _ ?_
            clear hK K
            (try simp only [Act.put, List.getElem_toArray, List.getElem_cons_zero, List.getElem_cons_succ, List.setIfInBounds_toArray, List.set_cons_zero, List.set_cons_succ])
            refine wpAnyIn_ready (rs := [3]) (by kernel_rfl) (by simp) ?_
            refine AllReadyIn.cons (o := ({ dst := some 17, op := Go.Op.load 63 (Go.Operand.tmp 16), type := 63, pos := "skip.go:119", after := #[{ on := 2, ground := Go.Ground.data }], guard := none } : Go.Oper)) rfl (fun K hK => ?_) AllReadyIn.nil
            go_simp
            refine hK _ _ ?_
            clear hK K
            (try simp only [Act.put, List.getElem_toArray, List.getElem_cons_zero, List.getElem_cons_succ, List.setIfInBounds_toArray, List.set_cons_zero, List.set_cons_succ])
            refine wpAnyIn_ready (rs := [5]) (by kernel_rfl) (by simp) ?_
            refine AllReadyIn.cons (o := ({ dst := some 19, op := Go.Op.nilCheck (Go.Operand.tmp 17), type := 0, pos := "skip.go:119", after := #[{ on := 3, ground := Go.Ground.data }], guard := none } : Go.Oper)) rfl (fun K hK => ?_) AllReadyIn.nil
            go_simp
            refine hK _ _ ?_
            clear hK K
            (try simp only [Act.put, List.getElem_toArray, List.getElem_cons_zero, List.getElem_cons_succ, List.setIfInBounds_toArray, List.set_cons_zero, List.set_cons_succ])
            refine wpAnyIn_take (i := 6) (oi := ({ dst := some 20, op := Go.Op.fieldAddr 79 (Go.Operand.tmp 19) 1, type := 0, pos := "skip.go:119", after := #[{ on := 5, ground := Go.Ground.data }], guard := none } : Go.Oper)) (v := ?v52) rfl rfl (by kernel_rfl) (by kernel_rfl) (by kernel_rfl) (fun _ _ _ h => h) ⟨Or.inl ⟨by rfl, ?hy52⟩, fun _ => rfl⟩ ?rest52
            case hy52 => (intro w; go_simp; (try with_reducible rfl))
            (try simp only [Act.put, List.getElem_toArray, List.getElem_cons_zero, List.getElem_cons_succ, List.setIfInBounds_toArray, List.set_cons_zero, List.set_cons_succ])
            refine wpAnyIn_take (i := 7) (oi := ({ dst := some 21, op := Go.Op.indexAddr 73 (Go.Operand.tmp 20) (Go.Operand.tmp 18), type := 0, pos := "skip.go:119", after := #[{ on := 6, ground := Go.Ground.data }, { on := 4, ground := Go.Ground.data }], guard := none } : Go.Oper)) (v := ?v53) rfl rfl (by kernel_rfl) (by kernel_rfl) (by kernel_rfl) (fun _ _ _ h => h) ⟨Or.inl ⟨by rfl, ?hy53⟩, fun _ => rfl⟩ ?rest53
            case hy53 => (intro w; go_simp; (try with_reducible rfl))
            (try simp only [Act.put, List.getElem_toArray, List.getElem_cons_zero, List.getElem_cons_succ, List.setIfInBounds_toArray, List.set_cons_zero, List.set_cons_succ])
            refine wpAnyIn_ready (rs := [8]) (by kernel_rfl) (by simp) ?_
            refine AllReadyIn.cons (o := ({ dst := some 22, op := Go.Op.load 63 (Go.Operand.tmp 21), type := 63, pos := "skip.go:119", after := #[{ on := 7, ground := Go.Ground.data }], guard := none } : Go.Oper)) rfl (fun K hK => ?_) AllReadyIn.nil
            go_simp
            refine hK _ _ ?_
            clear hK K
            (try simp only [Act.put, List.getElem_toArray, List.getElem_cons_zero, List.getElem_cons_succ, List.setIfInBounds_toArray, List.set_cons_zero, List.set_cons_succ])
            refine wpAnyIn_ready (rs := [11]) (by kernel_rfl) (by simp) ?_
            refine AllReadyIn.cons (o := ({ dst := some 25, op := Go.Op.call { callee := Go.Callee.value (Go.Operand.func 46), args := #[Go.Operand.tmp 22, Go.Operand.tmp 23, Go.Operand.tmp 24], argTypes := #[63, 3, 72] }, type := 0, pos := "skip.go:119", after := #[{ on := 8, ground := Go.Ground.data }, { on := 9, ground := Go.Ground.data }, { on := 10, ground := Go.Ground.data }], guard := none } : Go.Oper)) rfl (fun K hK => ?_) AllReadyIn.nil
            go_simp
            refine ⟨trivial, fun h => (by simp [Fence.wide] at h), ?_⟩; have xw : Ext W W.drew := Ext.drew (Ext.rfl_ _); refine (hov _ _ J Jx W.drew (h0W.trans xw) hJ hJx hY (hJ _ _ _ _ _ hJ0 (Kept.of_ext xw) (fun _ h => h) (fun _ h => .inl h))).mono ?_; rintro e w' ⟨⟨v, rfl⟩, hend⟩
            refine hK _ _ ?_
            clear hK K
            (try simp only [Act.put, List.getElem_toArray, List.getElem_cons_zero, List.getElem_cons_succ, List.setIfInBounds_toArray, List.set_cons_zero, List.set_cons_succ])
            refine wpAnyIn_done (by kernel_rfl) ?_ _
        case' more43 =>
          refine AllReadyIn.cons (o := ({ dst := some 23, op := Go.Op.load 3 (Go.Operand.tmp 2), type := 3, pos := "skip.go:119", after := #[], guard := none } : Go.Oper)) rfl (fun K hK => ?_) AllReadyIn.nil
          go_simp
          refine hK _ _ ?_
          clear hK K
          (try simp only [Act.put, List.getElem_toArray, List.getElem_cons_zero, List.getElem_cons_succ, List.setIfInBounds_toArray, List.set_cons_zero, List.set_cons_succ])
          refine wpAnyIn_ready (rs := [1]) (by kernel_rfl) (by simp) ?_
          refine AllReadyIn.cons (o := ({ dst := some 15, op := Go.Op.nilCheck (Go.Operand.tmp 14), type := 0, pos := "skip.go:119", after := #[{ on := 0, ground := Go.Ground.data }], guard := none } : Go.Oper)) rfl (fun K hK => ?_) AllReadyIn.nil
          go_simp
          refine hK _ _ ?_
          clear hK K
          (try simp only [Act.put, List.getElem_toArray, List.getElem_cons_zero, List.getElem_cons_succ, List.setIfInBounds_toArray, List.set_cons_zero, List.set_cons_succ])
          refine wpAnyIn_take (i := 2) (oi := ({ dst := some 16, op := Go.Op.fieldAddr 65 (Go.Operand.tmp 15) 0, type := 0, pos := "skip.go:119", after := #[{ on := 1, ground := Go.Ground.data }], guard := none } : Go.Oper)) (v := ?v54) rfl rfl (by kernel_rfl) (by kernel_rfl) (by kernel_rfl) (fun _ _ _ h => h) ⟨Or.inl ⟨by rfl, ?hy54⟩, fun _ => rfl⟩ ?rest54
          case hy54 => (intro w; go_simp; (try with_reducible rfl))
          (try simp only [Act.put, List.getElem_toArray, List.getElem_cons_zero, List.getElem_cons_succ, List.setIfInBounds_toArray, List.set_cons_zero, List.set_cons_succ])
          refine wpAnyIn_ready (rs := [3]) (by kernel_rfl) (by simp) ?_
          refine AllReadyIn.cons (o := ({ dst := some 17, op := Go.Op.load 63 (Go.Operand.tmp 16), type := 63, pos := "skip.go:119", after := #[{ on := 2, ground := Go.Ground.data }], guard := none } : Go.Oper)) rfl (fun K hK => ?_) AllReadyIn.nil
          go_simp
          refine hK _ _ ?_
          clear hK K
          (try simp only [Act.put, List.getElem_toArray, List.getElem_cons_zero, List.getElem_cons_succ, List.setIfInBounds_toArray, List.set_cons_zero, List.set_cons_succ])
          refine wpAnyIn_ready (rs := [5]) (by kernel_rfl) (by simp) ?_
          refine AllReadyIn.cons (o := ({ dst := some 19, op := Go.Op.nilCheck (Go.Operand.tmp 17), type := 0, pos := "skip.go:119", after := #[{ on := 3, ground := Go.Ground.data }], guard := none } : Go.Oper)) rfl (fun K hK => ?_) AllReadyIn.nil
          go_simp
          refine hK _ _ ?_
          clear hK K
          (try simp only [Act.put, List.getElem_toArray, List.getElem_cons_zero, List.getElem_cons_succ, List.setIfInBounds_toArray, List.set_cons_zero, List.set_cons_succ])
          refine wpAnyIn_take (i := 6) (oi := ({ dst := some 20, op := Go.Op.fieldAddr 79 (Go.Operand.tmp 19) 1, type := 0, pos := "skip.go:119", after := #[{ on := 5, ground := Go.Ground.data }], guard := none } : Go.Oper)) (v := ?v55) rfl rfl (by kernel_rfl) (by kernel_rfl) (by kernel_rfl) (fun _ _ _ h => h) ⟨Or.inl ⟨by rfl, ?hy55⟩, fun _ => rfl⟩ ?rest55
          case hy55 => (intro w; go_simp; (try with_reducible rfl))
          (try simp only [Act.put, List.getElem_toArray, List.getElem_cons_zero, List.getElem_cons_succ, List.setIfInBounds_toArray, List.set_cons_zero, List.set_cons_succ])
          refine wpAnyIn_take (i := 7) (oi := ({ dst := some 21, op := Go.Op.indexAddr 73 (Go.Operand.tmp 20) (Go.Operand.tmp 18), type := 0, pos := "skip.go:119", after := #[{ on := 6, ground := Go.Ground.data }, { on := 4, ground := Go.Ground.data }], guard := none } : Go.Oper)) (v := ?v56) rfl rfl (by kernel_rfl) (by kernel_rfl) (by kernel_rfl) (fun _ _ _ h => h) ⟨Or.inl ⟨by rfl, ?hy56⟩, fun _ => rfl⟩ ?rest56
          case hy56 => (intro w; go_simp; (try with_reducible rfl))
          (try simp only [Act.put, List.getElem_toArray, List.getElem_cons_zero, List.getElem_cons_succ, List.setIfInBounds_toArray, List.set_cons_zero, List.set_cons_succ])
          refine wpAnyIn_ready (rs := [8]) (by kernel_rfl) (by simp) ?_
          refine AllReadyIn.cons (o := ({ dst := some 22, op := Go.Op.load 63 (Go.Operand.tmp 21), type := 63, pos := "skip.go:119", after := #[{ on := 7, ground := Go.Ground.data }], guard := none } : Go.Oper)) rfl (fun K hK => ?_) AllReadyIn.nil
          go_simp
          refine hK _ _ ?_
          clear hK K
          (try simp only [Act.put, List.getElem_toArray, List.getElem_cons_zero, List.getElem_cons_succ, List.setIfInBounds_toArray, List.set_cons_zero, List.set_cons_succ])
          refine wpAnyIn_ready (rs := [11]) (by kernel_rfl) (by simp) ?_
          refine AllReadyIn.cons (o := ({ dst := some 25, op := Go.Op.call { callee := Go.Callee.value (Go.Operand.func 46), args := #[Go.Operand.tmp 22, Go.Operand.tmp 23, Go.Operand.tmp 24], argTypes := #[63, 3, 72] }, type := 0, pos := "skip.go:119", after := #[{ on := 8, ground := Go.Ground.data }, { on := 9, ground := Go.Ground.data }, { on := 10, ground := Go.Ground.data }], guard := none } : Go.Oper)) rfl (fun K hK => ?_) AllReadyIn.nil
          go_simp
          refine ⟨trivial, fun h => (by simp [Fence.wide] at h), ?_⟩; have xw : Ext W W.drew := Ext.drew (Ext.rfl_ _); refine (hov _ _ J Jx W.drew (h0W.trans xw) hJ hJx hY (hJ _ _ _ _ _ hJ0 (Kept.of_ext xw) (fun _ h => h) (fun _ h => .inl h))).mono ?_; rintro e w' ⟨⟨v, rfl⟩, hend⟩
          refine hK _ _ ?_
          clear hK K
          (try simp only [Act.put, List.getElem_toArray, List.getElem_cons_zero, List.getElem_cons_succ, List.setIfInBounds_toArray, List.set_cons_zero, List.set_cons_succ])
          refine wpAnyIn_done (by kernel_rfl) ?_ _
      case' more42 =>
        refine AllReadyIn.cons (o := ({ dst := some 23, op := Go.Op.load 3 (Go.Operand.tmp 2), type := 3, pos := "skip.go:119", after := #[], guard := none } : Go.Oper)) rfl (fun K hK => ?_) AllReadyIn.nil
        go_simp
        refine hK _ _ ?_
        clear hK K
        (try simp only [Act.put, List.getElem_toArray, List.getElem_cons_zero, List.getElem_cons_succ, List.setIfInBounds_toArray, List.set_cons_zero, List.set_cons_succ])
        refine wpAnyIn_ready (rs := [1, 4]) (by kernel_rfl) (by simp) ?_
        refine AllReadyIn.cons (o := ({ dst := some 15, op := Go.Op.nilCheck (Go.Operand.tmp 14), type := 0, pos := "skip.go:119", after := #[{ on := 0, ground := Go.Ground.data }], guard := none } : Go.Oper)) rfl (fun K hK => ?one57) ?more57
        case' one57 =>
          go_simp
          refine hK _ _ ?_
          clear hK K
          (try simp only [Act.put, List.getElem_toArray, List.getElem_cons_zero, List.getElem_cons_succ, List.setIfInBounds_toArray, List.set_cons_zero, List.set_cons_succ])
          refine wpAnyIn_take (i := 2) (oi := ({ dst := some 16, op := Go.Op.fieldAddr 65 (Go.Operand.tmp 15) 0, type := 0, pos := "skip.go:119", after := #[{ on := 1, ground := Go.Ground.data }], guard := none } : Go.Oper)) (v := ?v58) rfl rfl (by kernel_rfl) (by kernel_rfl) (by kernel_rfl) (fun _ _ _ h => h) ⟨Or.inl ⟨by rfl, ?hy58⟩, fun _ => rfl⟩ ?rest58
          case hy58 => (intro w; go_simp; (try with_reducible rfl))
          (try simp only [Act.put, List.getElem_toArray, List.getElem_cons_zero, List.getElem_cons_succ, List.setIfInBounds_toArray, List.set_cons_zero, List.set_cons_succ])
          refine wpAnyIn_ready (rs := [3, 4]) (by kernel_rfl) (by simp) ?_
          refine AllReadyIn.cons (o := ({ dst := some 17, op := Go.Op.load 63 (Go.Operand.tmp 16), type := 63, pos := "skip.go:119", after := #[{ on := 2, ground := Go.Ground.data }], guard := none } : Go.Oper)) rfl (fun K hK => ?one59) ?more59
          case' one59 =>
            go_simp
            refine hK _ _ ?_
            clear hK K
            (try simp only [Act.put, List.getElem_toArray, List.getElem_cons_zero, List.getElem_cons_succ, List.setIfInBounds_toArray, List.set_cons_zero, List.set_cons_succ])
            refine wpAnyIn_ready (rs := [4, 5]) (by kernel_rfl) (by simp) ?_
            refine AllReadyIn.cons (o := ({ dst := some 18, op := Go.Op.load 3 (Go.Operand.tmp 2), type := 3, pos := "skip.go:119", after := #[], guard := none } : Go.Oper)) rfl (fun K hK => ?one60) ?more60
            case' one60 =>
              go_simp
              refine hK _ _ ?_
              clear hK K
              (try simp only [Act.put, List.getElem_toArray, List.getElem_cons_zero, List.getElem_cons_succ, List.setIfInBounds_toArray, List.set_cons_zero, List.set_cons_succ])
              refine wpAnyIn_ready (rs := [5]) (by kernel_rfl) (by simp) ?_
              refine AllReadyIn.cons (o := ({ dst := some 19, op := Go.Op.nilCheck (Go.Operand.tmp 17), type := 0, pos := "skip.go:119", after := #[{ on := 3, ground := Go.Ground.data }], guard := none } : Go.Oper)) rfl (fun K hK => ?_) AllReadyIn.nil
              go_simp
              refine hK _ _ ?_
              clear hK K
              (try simp only [Act.put, List.getElem_toArray, List.getElem_cons_zero, List.getElem_cons_succ, List.setIfInBounds_toArray, List.set_cons_zero, List.set_cons_succ])
              refine wpAnyIn_take (i := 6) (oi := ({ dst := some 20, op := Go.Op.fieldAddr 79 (Go.Operand.tmp 19) 1, type := 0, pos := "skip.go:119", after := #[{ on := 5, ground := Go.Ground.data }], guard := none } : Go.Oper)) (v := ?v61) rfl rfl (by kernel_rfl) (by kernel_rfl) (by kernel_rfl) (fun _ _ _ h => h) ⟨Or.inl ⟨by rfl, ?hy61⟩, fun _ => rfl⟩ ?rest61
              case hy61 => (intro w; go_simp; (try with_reducible rfl))
              (try simp only [Act.put, List.getElem_toArray, List.getElem_cons_zero, List.getElem_cons_succ, List.setIfInBounds_toArray, List.set_cons_zero, List.set_cons_succ])
              refine wpAnyIn_take (i := 7) (oi := ({ dst := some 21, op := Go.Op.indexAddr 73 (Go.Operand.tmp 20) (Go.Operand.tmp 18), type := 0, pos := "skip.go:119", after := #[{ on := 6, ground := Go.Ground.data }, { on := 4, ground := Go.Ground.data }], guard := none } : Go.Oper)) (v := ?v62) rfl rfl (by kernel_rfl) (by kernel_rfl) (by kernel_rfl) (fun _ _ _ h => h) ⟨Or.inl ⟨by rfl, ?hy62⟩, fun _ => rfl⟩ ?rest62
              case hy62 => (intro w; go_simp; (try with_reducible rfl))
              (try simp only [Act.put, List.getElem_toArray, List.getElem_cons_zero, List.getElem_cons_succ, List.setIfInBounds_toArray, List.set_cons_zero, List.set_cons_succ])
              refine wpAnyIn_ready (rs := [8]) (by kernel_rfl) (by simp) ?_
              refine AllReadyIn.cons (o := ({ dst := some 22, op := Go.Op.load 63 (Go.Operand.tmp 21), type := 63, pos := "skip.go:119", after := #[{ on := 7, ground := Go.Ground.data }], guard := none } : Go.Oper)) rfl (fun K hK => ?_) AllReadyIn.nil
              go_simp
              refine hK _ _ ?_
              clear hK K
              (try simp only [Act.put, List.getElem_toArray, List.getElem_cons_zero, List.getElem_cons_succ, List.setIfInBounds_toArray, List.set_cons_zero, List.set_cons_succ])
              refine wpAnyIn_ready (rs := [11]) (by kernel_rfl) (by simp) ?_
              refine AllReadyIn.cons (o := ({ dst := some 25, op := Go.Op.call { callee := Go.Callee.value (Go.Operand.func 46), args := #[Go.Operand.tmp 22, Go.Operand.tmp 23, Go.Operand.tmp 24], argTypes := #[63, 3, 72] }, type := 0, pos := "skip.go:119", after := #[{ on := 8, ground := Go.Ground.data }, { on := 9, ground := Go.Ground.data }, { on := 10, ground := Go.Ground.data }], guard := none } : Go.Oper)) rfl (fun K hK => ?_) AllReadyIn.nil
              go_simp
              refine ⟨trivial, fun h => (by simp [Fence.wide] at h), ?_⟩; have xw : Ext W W.drew := Ext.drew (Ext.rfl_ _); refine (hov _ _ J Jx W.drew (h0W.trans xw) hJ hJx hY (hJ _ _ _ _ _ hJ0 (Kept.of_ext xw) (fun _ h => h) (fun _ h => .inl h))).mono ?_; rintro e w' ⟨⟨v, rfl⟩, hend⟩
              refine hK _ _ ?_
              clear hK K
              (try simp only [Act.put, List.getElem_toArray, List.getElem_cons_zero, List.getElem_cons_succ, List.setIfInBounds_toArray, List.set_cons_zero, List.set_cons_succ])
              refine wpAnyIn_done (by kernel_rfl) ?_ _
            case' more60 =>
              refine AllReadyIn.cons (o := ({ dst := some 19, op := Go.Op.nilCheck (Go.Operand.tmp 17), type := 0, pos := "skip.go:119", after := #[{ on := 3, ground := Go.Ground.data }], guard := none } : Go.Oper)) rfl (fun K hK => ?_) AllReadyIn.nil
              go_simp
              refine hK _ _ ?_
              clear hK K
              (try simp only [Act.put, List.getElem_toArray, List.getElem_cons_zero, List.getElem_cons_succ, List.setIfInBounds_toArray, List.set_cons_zero, List.set_cons_succ])
              refine wpAnyIn_take (i := 6) (oi := ({ dst := some 20, op := Go.Op.fieldAddr 79 (Go.Operand.tmp 19) 1, type := 0, pos := "skip.go:119", after := #[{ on := 5, ground := Go.Ground.data }], guard := none } : Go.Oper)) (v := ?v63) rfl rfl (by kernel_rfl) (by kernel_rfl) (by kernel_rfl) (fun _ _ _ h => h) ⟨Or.inl ⟨by rfl, ?hy63⟩, fun _ => rfl⟩ ?rest63
              case hy63 => (intro w; go_simp; (try with_reducible rfl))
              (try simp only [Act.put, List.getElem_toArray, List.getElem_cons_zero, List.getElem_cons_succ, List.setIfInBounds_toArray, List.set_cons_zero, List.set_cons_succ])
              refine wpAnyIn_ready (rs := [4]) (by kernel_rfl) (by simp) ?_
              refine AllReadyIn.cons (o := ({ dst := some 18, op := Go.Op.load 3 (Go.Operand.tmp 2), type := 3, pos := "skip.go:119", after := #[], guard := none } : Go.Oper)) rfl (fun K hK => ?_) AllReadyIn.nil
              go_simp
              refine hK _ _ ?_
              clear hK K
              (try simp only [Act.put, List.getElem_toArray, List.getElem_cons_zero, List.getElem_cons_succ, List.setIfInBounds_toArray, List.set_cons_zero, List.set_cons_succ])
              refine wpAnyIn_take (i := 7) (oi := ({ dst := some 21, op := Go.Op.indexAddr 73 (Go.Operand.tmp 20) (Go.Operand.tmp 18), type := 0, pos := "skip.go:119", after := #[{ on := 6, ground := Go.Ground.data }, { on := 4, ground := Go.Ground.data }], guard := none } : Go.Oper)) (v := ?v64) rfl rfl (by kernel_rfl) (by kernel_rfl) (by kernel_rfl) (fun _ _ _ h => h) ⟨Or.inl ⟨by rfl, ?hy64⟩, fun _ => rfl⟩ ?rest64
              case hy64 => (intro w; go_simp; (try with_reducible rfl))
              (try simp only [Act.put, List.getElem_toArray, List.getElem_cons_zero, List.getElem_cons_succ, List.setIfInBounds_toArray, List.set_cons_zero, List.set_cons_succ])
              refine wpAnyIn_ready (rs := [8]) (by kernel_rfl) (by simp) ?_
              refine AllReadyIn.cons (o := ({ dst := some 22, op := Go.Op.load 63 (Go.Operand.tmp 21), type := 63, pos := "skip.go:119", after := #[{ on := 7, ground := Go.Ground.data }], guard := none } : Go.Oper)) rfl (fun K hK => ?_) AllReadyIn.nil
              go_simp
              refine hK _ _ ?_
              clear hK K
              (try simp only [Act.put, List.getElem_toArray, List.getElem_cons_zero, List.getElem_cons_succ, List.setIfInBounds_toArray, List.set_cons_zero, List.set_cons_succ])
              refine wpAnyIn_ready (rs := [11]) (by kernel_rfl) (by simp) ?_
              refine AllReadyIn.cons (o := ({ dst := some 25, op := Go.Op.call { callee := Go.Callee.value (Go.Operand.func 46), args := #[Go.Operand.tmp 22, Go.Operand.tmp 23, Go.Operand.tmp 24], argTypes := #[63, 3, 72] }, type := 0, pos := "skip.go:119", after := #[{ on := 8, ground := Go.Ground.data }, { on := 9, ground := Go.Ground.data }, { on := 10, ground := Go.Ground.data }], guard := none } : Go.Oper)) rfl (fun K hK => ?_) AllReadyIn.nil
              go_simp
              refine ⟨trivial, fun h => (by simp [Fence.wide] at h), ?_⟩; have xw : Ext W W.drew := Ext.drew (Ext.rfl_ _); refine (hov _ _ J Jx W.drew (h0W.trans xw) hJ hJx hY (hJ _ _ _ _ _ hJ0 (Kept.of_ext xw) (fun _ h => h) (fun _ h => .inl h))).mono ?_; rintro e w' ⟨⟨v, rfl⟩, hend⟩
              refine hK _ _ ?_
              clear hK K
              (try simp only [Act.put, List.getElem_toArray, List.getElem_cons_zero, List.getElem_cons_succ, List.setIfInBounds_toArray, List.set_cons_zero, List.set_cons_succ])
              refine wpAnyIn_done (by kernel_rfl) ?_ _
          case' more59 =>
            refine AllReadyIn.cons (o := ({ dst := some 18, op := Go.Op.load 3 (Go.Operand.tmp 2), type := 3, pos := "skip.go:119", after := #[], guard := none } : Go.Oper)) rfl (fun K hK => ?_) AllReadyIn.nil
            go_simp
            refine hK _ _ ?_
            clear hK K
            (try simp only [Act.put, List.getElem_toArray, List.getElem_cons_zero, List.getElem_cons_succ, List.setIfInBounds_toArray, List.set_cons_zero, List.set_cons_succ])
            refine wpAnyIn_ready (rs := [3]) (by kernel_rfl) (by simp) ?_
            refine AllReadyIn.cons (o := ({ dst := some 17, op := Go.Op.load 63 (Go.Operand.tmp 16), type := 63, pos := "skip.go:119", after := #[{ on := 2, ground := Go.Ground.data }], guard := none } : Go.Oper)) rfl (fun K hK => ?_) AllReadyIn.nil
            go_simp
            refine hK _ _ ?_
            clear hK K
            (try simp only [Act.put, List.getElem_toArray, List.getElem_cons_zero, List.getElem_cons_succ, List.setIfInBounds_toArray, List.set_cons_zero, List.set_cons_succ])
            refine wpAnyIn_ready (rs := [5]) (by kernel_rfl) (by simp) ?_
            refine AllReadyIn.cons (o := ({ dst := some 19, op := Go.Op.nilCheck (Go.Operand.tmp 17), type := 0, pos := "skip.go:119", after := #[{ on := 3, ground := Go.Ground.data }], guard := none } : Go.Oper)) rfl (fun K hK => ?_) AllReadyIn.nil
            go_simp
            refine hK _ _ ?_
            clear hK K
            (try simp only [Act.put, List.getElem_toArray, List.getElem_cons_zero, List.getElem_cons_succ, List.setIfInBounds_toArray, List.set_cons_zero, List.set_cons_succ])
            refine wpAnyIn_take (i := 6) (oi := ({ dst := some 20, op := Go.Op.fieldAddr 79 (Go.Operand.tmp 19) 1, type := 0, pos := "skip.go:119", after := #[{ on := 5, ground := Go.Ground.data }], guard := none } : Go.Oper)) (v := ?v65) rfl rfl (by kernel_rfl) (by kernel_rfl) (by kernel_rfl) (fun _ _ _ h => h) ⟨Or.inl ⟨by rfl, ?hy65⟩, fun _ => rfl⟩ ?rest65
            case hy65 => (intro w; go_simp; (try with_reducible rfl))
            (try simp only [Act.put, List.getElem_toArray, List.getElem_cons_zero, List.getElem_cons_succ, List.setIfInBounds_toArray, List.set_cons_zero, List.set_cons_succ])
            refine wpAnyIn_take (i := 7) (oi := ({ dst := some 21, op := Go.Op.indexAddr 73 (Go.Operand.tmp 20) (Go.Operand.tmp 18), type := 0, pos := "skip.go:119", after := #[{ on := 6, ground := Go.Ground.data }, { on := 4, ground := Go.Ground.data }], guard := none } : Go.Oper)) (v := ?v66) rfl rfl (by kernel_rfl) (by kernel_rfl) (by kernel_rfl) (fun _ _ _ h => h) ⟨Or.inl ⟨by rfl, ?hy66⟩, fun _ => rfl⟩ ?rest66
            case hy66 => (intro w; go_simp; (try with_reducible rfl))
            (try simp only [Act.put, List.getElem_toArray, List.getElem_cons_zero, List.getElem_cons_succ, List.setIfInBounds_toArray, List.set_cons_zero, List.set_cons_succ])
            refine wpAnyIn_ready (rs := [8]) (by kernel_rfl) (by simp) ?_
            refine AllReadyIn.cons (o := ({ dst := some 22, op := Go.Op.load 63 (Go.Operand.tmp 21), type := 63, pos := "skip.go:119", after := #[{ on := 7, ground := Go.Ground.data }], guard := none } : Go.Oper)) rfl (fun K hK => ?_) AllReadyIn.nil
            go_simp
            refine hK _ _ ?_
            clear hK K
            (try simp only [Act.put, List.getElem_toArray, List.getElem_cons_zero, List.getElem_cons_succ, List.setIfInBounds_toArray, List.set_cons_zero, List.set_cons_succ])
            refine wpAnyIn_ready (rs := [11]) (by kernel_rfl) (by simp) ?_
            refine AllReadyIn.cons (o := ({ dst := some 25, op := Go.Op.call { callee := Go.Callee.value (Go.Operand.func 46), args := #[Go.Operand.tmp 22, Go.Operand.tmp 23, Go.Operand.tmp 24], argTypes := #[63, 3, 72] }, type := 0, pos := "skip.go:119", after := #[{ on := 8, ground := Go.Ground.data }, { on := 9, ground := Go.Ground.data }, { on := 10, ground := Go.Ground.data }], guard := none } : Go.Oper)) rfl (fun K hK => ?_) AllReadyIn.nil
            go_simp
            refine ⟨trivial, fun h => (by simp [Fence.wide] at h), ?_⟩; have xw : Ext W W.drew := Ext.drew (Ext.rfl_ _); refine (hov _ _ J Jx W.drew (h0W.trans xw) hJ hJx hY (hJ _ _ _ _ _ hJ0 (Kept.of_ext xw) (fun _ h => h) (fun _ h => .inl h))).mono ?_; rintro e w' ⟨⟨v, rfl⟩, hend⟩
            refine hK _ _ ?_
            clear hK K
            (try simp only [Act.put, List.getElem_toArray, List.getElem_cons_zero, List.getElem_cons_succ, List.setIfInBounds_toArray, List.set_cons_zero, List.set_cons_succ])
            refine wpAnyIn_done (by kernel_rfl) ?_ _
        case' more57 =>
          refine AllReadyIn.cons (o := ({ dst := some 18, op := Go.Op.load 3 (Go.Operand.tmp 2), type := 3, pos := "skip.go:119", after := #[], guard := none } : Go.Oper)) rfl (fun K hK => ?_) AllReadyIn.nil
          go_simp
          refine hK _ _ ?_
          clear hK K
          (try simp only [Act.put, List.getElem_toArray, List.getElem_cons_zero, List.getElem_cons_succ, List.setIfInBounds_toArray, List.set_cons_zero, List.set_cons_succ])
          refine wpAnyIn_ready (rs := [1]) (by kernel_rfl) (by simp) ?_
          refine AllReadyIn.cons (o := ({ dst := some 15, op := Go.Op.nilCheck (Go.Operand.tmp 14), type := 0, pos := "skip.go:119", after := #[{ on := 0, ground := Go.Ground.data }], guard := none } : Go.Oper)) rfl (fun K hK => ?_) AllReadyIn.nil
          go_simp
          refine hK _ _ ?_
          clear hK K
          (try simp only [Act.put, List.getElem_toArray, List.getElem_cons_zero, List.getElem_cons_succ, List.setIfInBounds_toArray, List.set_cons_zero, List.set_cons_succ])
          refine wpAnyIn_take (i := 2) (oi := ({ dst := some 16, op := Go.Op.fieldAddr 65 (Go.Operand.tmp 15) 0, type := 0, pos := "skip.go:119", after := #[{ on := 1, ground := Go.Ground.data }], guard := none } : Go.Oper)) (v := ?v67) rfl rfl (by kernel_rfl) (by kernel_rfl) (by kernel_rfl) (fun _ _ _ h => h) ⟨Or.inl ⟨by rfl, ?hy67⟩, fun _ => rfl⟩ ?rest67
          case hy67 => (intro w; go_simp; (try with_reducible rfl))
          (try simp only [Act.put, List.getElem_toArray, List.getElem_cons_zero, List.getElem_cons_succ, List.setIfInBounds_toArray, List.set_cons_zero, List.set_cons_succ])
          refine wpAnyIn_ready (rs := [3]) (by kernel_rfl) (by simp) ?_
          refine AllReadyIn.cons (o := ({ dst := some 17, op := Go.Op.load 63 (Go.Operand.tmp 16), type := 63, pos := "skip.go:119", after := #[{ on := 2, ground := Go.Ground.data }], guard := none } : Go.Oper)) rfl (fun K hK => ?_) AllReadyIn.nil
          go_simp
          refine hK _ _ ?_
          clear hK K
          (try simp only [Act.put, List.getElem_toArray, List.getElem_cons_zero, List.getElem_cons_succ, List.setIfInBounds_toArray, List.set_cons_zero, List.set_cons_succ])
          refine wpAnyIn_ready (rs := [5]) (by kernel_rfl) (by simp) ?_
          refine AllReadyIn.cons (o := ({ dst := some 19, op := Go.Op.nilCheck (Go.Operand.tmp 17), type := 0, pos := "skip.go:119", after := #[{ on := 3, ground := Go.Ground.data }], guard := none } : Go.Oper)) rfl (fun K hK => ?_) AllReadyIn.nil
          go_simp
          refine hK _ _ ?_
          clear hK K
          (try simp only [Act.put, List.getElem_toArray, List.getElem_cons_zero, List.getElem_cons_succ, List.setIfInBounds_toArray, List.set_cons_zero, List.set_cons_succ])
          refine wpAnyIn_take (i := 6) (oi := ({ dst := some 20, op := Go.Op.fieldAddr 79 (Go.Operand.tmp 19) 1, type := 0, pos := "skip.go:119", after := #[{ on := 5, ground := Go.Ground.data }], guard := none } : Go.Oper)) (v := ?v68) rfl rfl (by kernel_rfl) (by kernel_rfl) (by kernel_rfl) (fun _ _ _ h => h) ⟨Or.inl ⟨by rfl, ?hy68⟩, fun _ => rfl⟩ ?rest68
          case hy68 => (intro w; go_simp; (try with_reducible rfl))
          (try simp only [Act.put, List.getElem_toArray, List.getElem_cons_zero, List.getElem_cons_succ, List.setIfInBounds_toArray, List.set_cons_zero, List.set_cons_succ])
          refine wpAnyIn_take (i := 7) (oi := ({ dst := some 21, op := Go.Op.indexAddr 73 (Go.Operand.tmp 20) (Go.Operand.tmp 18), type := 0, pos := "skip.go:119", after := #[{ on := 6, ground := Go.Ground.data }, { on := 4, ground := Go.Ground.data }], guard := none } : Go.Oper)) (v := ?v69) rfl rfl (by kernel_rfl) (by kernel_rfl) (by kernel_rfl) (fun _ _ _ h => h) ⟨Or.inl ⟨by rfl, ?hy69⟩, fun _ => rfl⟩ ?rest69
          case hy69 => (intro w; go_simp; (try with_reducible rfl))
          (try simp only [Act.put, List.getElem_toArray, List.getElem_cons_zero, List.getElem_cons_succ, List.setIfInBounds_toArray, List.set_cons_zero, List.set_cons_succ])
          refine wpAnyIn_ready (rs := [8]) (by kernel_rfl) (by simp) ?_
          refine AllReadyIn.cons (o := ({ dst := some 22, op := Go.Op.load 63 (Go.Operand.tmp 21), type := 63, pos := "skip.go:119", after := #[{ on := 7, ground := Go.Ground.data }], guard := none } : Go.Oper)) rfl (fun K hK => ?_) AllReadyIn.nil
          go_simp
          refine hK _ _ ?_
          clear hK K
          (try simp only [Act.put, List.getElem_toArray, List.getElem_cons_zero, List.getElem_cons_succ, List.setIfInBounds_toArray, List.set_cons_zero, List.set_cons_succ])
          refine wpAnyIn_ready (rs := [11]) (by kernel_rfl) (by simp) ?_
          refine AllReadyIn.cons (o := ({ dst := some 25, op := Go.Op.call { callee := Go.Callee.value (Go.Operand.func 46), args := #[Go.Operand.tmp 22, Go.Operand.tmp 23, Go.Operand.tmp 24], argTypes := #[63, 3, 72] }, type := 0, pos := "skip.go:119", after := #[{ on := 8, ground := Go.Ground.data }, { on := 9, ground := Go.Ground.data }, { on := 10, ground := Go.Ground.data }], guard := none } : Go.Oper)) rfl (fun K hK => ?_) AllReadyIn.nil
          go_simp
          refine ⟨trivial, fun h => (by simp [Fence.wide] at h), ?_⟩; have xw : Ext W W.drew := Ext.drew (Ext.rfl_ _); refine (hov _ _ J Jx W.drew (h0W.trans xw) hJ hJx hY (hJ _ _ _ _ _ hJ0 (Kept.of_ext xw) (fun _ h => h) (fun _ h => .inl h))).mono ?_; rintro e w' ⟨⟨v, rfl⟩, hend⟩
          refine hK _ _ ?_
          clear hK K
          (try simp only [Act.put, List.getElem_toArray, List.getElem_cons_zero, List.getElem_cons_succ, List.setIfInBounds_toArray, List.set_cons_zero, List.set_cons_succ])
          refine wpAnyIn_done (by kernel_rfl) ?_ _
  case' more2 =>
    refine AllReadyIn.cons (o := ({ dst := some 18, op := Go.Op.load 3 (Go.Operand.tmp 2), type := 3, pos := "skip.go:119", after := #[], guard := none } : Go.Oper)) rfl (fun K hK => ?one70) ?more70
    case' one70 =>
      go_simp
      refine hK _ _ ?_
      clear hK K
      (try simp only [Act.put, List.getElem_toArray, List.getElem_cons_zero, List.getElem_cons_succ, List.setIfInBounds_toArray, List.set_cons_zero, List.set_cons_succ])
      refine wpAnyIn_ready (rs := [0, 9]) (by kernel_rfl) (by simp) ?_
      refine AllReadyIn.cons (o := ({ dst := some 14, op := Go.Op.load 28 (Go.Operand.tmp 1), type := 28, pos := "skip.go:119", after := #[], guard := none } : Go.Oper)) rfl (fun K hK => ?one71) ?more71
      case' one71 =>
        go_simp
        refine hK _ _ ?_
        clear hK K
        (try simp only [Act.put, List.getElem_toArray, List.getElem_cons_zero, List.getElem_cons_succ, List.setIfInBounds_toArray, List.set_cons_zero, List.set_cons_succ])
        refine wpAnyIn_ready (rs := [1, 9]) (by kernel_rfl) (by simp) ?_
        refine AllReadyIn.cons (o := ({ dst := some 15, op := Go.Op.nilCheck (Go.Operand.tmp 14), type := 0, pos := "skip.go:119", after := #[{ on := 0, ground := Go.Ground.data }], guard := none } : Go.Oper)) rfl (fun K hK => ?one72) ?more72
        case' one72 =>
          go_simp
          refine hK _ _ ?_
          clear hK K
          (try simp only [Act.put, List.getElem_toArray, List.getElem_cons_zero, List.getElem_cons_succ, List.setIfInBounds_toArray, List.set_cons_zero, List.set_cons_succ])
          refine wpAnyIn_take (i := 2) (oi := ({ dst := some 16, op := Go.Op.fieldAddr 65 (Go.Operand.tmp 15) 0, type := 0, pos := "skip.go:119", after := #[{ on := 1, ground := Go.Ground.data }], guard := none } : Go.Oper)) (v := ?v73) rfl rfl (by kernel_rfl) (by kernel_rfl) (by kernel_rfl) (fun _ _ _ h => h) ⟨Or.inl ⟨by rfl, ?hy73⟩, fun _ => rfl⟩ ?rest73
          case hy73 => (intro w; go_simp; (try with_reducible rfl))
          (try simp only [Act.put, List.getElem_toArray, List.getElem_cons_zero, List.getElem_cons_succ, List.setIfInBounds_toArray, List.set_cons_zero, List.set_cons_succ])
          refine wpAnyIn_ready (rs := [3, 9]) (by kernel_rfl) (by simp) ?_
          refine AllReadyIn.cons (o := ({ dst := some 17, op := Go.Op.load 63 (Go.Operand.tmp 16), type := 63, pos := "skip.go:119", after := #[{ on := 2, ground := Go.Ground.data }], guard := none } : Go.Oper)) rfl (fun K hK => ?one74) ?more74
          case' one74 =>
            go_simp
            refine hK _ _ ?_
            clear hK K
            (try simp only [Act.put, List.getElem_toArray, List.getElem_cons_zero, List.getElem_cons_succ, List.setIfInBounds_toArray, List.set_cons_zero, List.set_cons_succ])
            refine wpAnyIn_ready (rs := [5, 9]) (by kernel_rfl) (by simp) ?_
            refine AllReadyIn.cons (o := ({ dst := some 19, op := Go.Op.nilCheck (Go.Operand.tmp 17), type := 0, pos := "skip.go:119", after := #[{ on := 3, ground := Go.Ground.data }], guard := none } : Go.Oper)) rfl (fun K hK => ?one75) ?more75
            case' one75 =>
              go_simp
              refine hK _ _ ?_
              clear hK K
              (try simp only [Act.put, List.getElem_toArray, List.getElem_cons_zero, List.getElem_cons_succ, List.setIfInBounds_toArray, List.set_cons_zero, List.set_cons_succ])
              refine wpAnyIn_take (i := 6) (oi := ({ dst := some 20, op := Go.Op.fieldAddr 79 (Go.Operand.tmp 19) 1, type := 0, pos := "skip.go:119", after := #[{ on := 5, ground := Go.Ground.data }], guard := none } : Go.Oper)) (v := ?v76) rfl rfl (by kernel_rfl) (by kernel_rfl) (by kernel_rfl) (fun _ _ _ h => h) ⟨Or.inl ⟨by rfl, ?hy76⟩, fun _ => rfl⟩ ?rest76
              case hy76 => (intro w; go_simp; (try with_reducible rfl))
              (try simp only [Act.put, List.getElem_toArray, List.getElem_cons_zero, List.getElem_cons_succ, List.setIfInBounds_toArray, List.set_cons_zero, List.set_cons_succ])
              refine wpAnyIn_take (i := 7) (oi := ({ dst := some 21, op := Go.Op.indexAddr 73 (Go.Operand.tmp 20) (Go.Operand.tmp 18), type := 0, pos := "skip.go:119", after := #[{ on := 6, ground := Go.Ground.data }, { on := 4, ground := Go.Ground.data }], guard := none } : Go.Oper)) (v := ?v77) rfl rfl (by kernel_rfl) (by kernel_rfl) (by kernel_rfl) (fun _ _ _ h => h) ⟨Or.inl ⟨by rfl, ?hy77⟩, fun _ => rfl⟩ ?rest77
              case hy77 => (intro w; go_simp; (try with_reducible rfl))
              (try simp only [Act.put, List.getElem_toArray, List.getElem_cons_zero, List.getElem_cons_succ, List.setIfInBounds_toArray, List.set_cons_zero, List.set_cons_succ])
              refine wpAnyIn_ready (rs := [8, 9]) (by kernel_rfl) (by simp) ?_
              refine AllReadyIn.cons (o := ({ dst := some 22, op := Go.Op.load 63 (Go.Operand.tmp 21), type := 63, pos := "skip.go:119", after := #[{ on := 7, ground := Go.Ground.data }], guard := none } : Go.Oper)) rfl (fun K hK => ?one78) ?more78
              case' one78 =>
                go_simp
                refine hK _ _ ?_
                clear hK K
                (try simp only [Act.put, List.getElem_toArray, List.getElem_cons_zero, List.getElem_cons_succ, List.setIfInBounds_toArray, List.set_cons_zero, List.set_cons_succ])
                refine wpAnyIn_ready (rs := [9]) (by kernel_rfl) (by simp) ?_
                refine AllReadyIn.cons (o := ({ dst := some 23, op := Go.Op.load 3 (Go.Operand.tmp 2), type := 3, pos := "skip.go:119", after := #[], guard := none } : Go.Oper)) rfl (fun K hK => ?_) AllReadyIn.nil
                go_simp
                refine hK _ _ ?_
                clear hK K
                (try simp only [Act.put, List.getElem_toArray, List.getElem_cons_zero, List.getElem_cons_succ, List.setIfInBounds_toArray, List.set_cons_zero, List.set_cons_succ])
                refine wpAnyIn_ready (rs := [11]) (by kernel_rfl) (by simp) ?_
                refine AllReadyIn.cons (o := ({ dst := some 25, op := Go.Op.call { callee := Go.Callee.value (Go.Operand.func 46), args := #[Go.Operand.tmp 22, Go.Operand.tmp 23, Go.Operand.tmp 24], argTypes := #[63, 3, 72] }, type := 0, pos := "skip.go:119", after := #[{ on := 8, ground := Go.Ground.data }, { on := 9, ground := Go.Ground.data }, { on := 10, ground := Go.Ground.data }], guard := none } : Go.Oper)) rfl (fun K hK => ?_) AllReadyIn.nil
                go_simp
                refine ⟨trivial, fun h => (by simp [Fence.wide] at h), ?_⟩; have xw : Ext W W.drew := Ext.drew (Ext.rfl_ _); refine (hov _ _ J Jx W.drew (h0W.trans xw) hJ hJx hY (hJ _ _ _ _ _ hJ0 (Kept.of_ext xw) (fun _ h => h) (fun _ h => .inl h))).mono ?_; rintro e w' ⟨⟨v, rfl⟩, hend⟩
                refine hK _ _ ?_
                clear hK K
                (try simp only [Act.put, List.getElem_toArray, List.getElem_cons_zero, List.getElem_cons_succ, List.setIfInBounds_toArray, List.set_cons_zero, List.set_cons_succ])
                refine wpAnyIn_done (by kernel_rfl) ?_ _
              case' more78 =>
                refine AllReadyIn.cons (o := ({ dst := some 23, op := Go.Op.load 3 (Go.Operand.tmp 2), type := 3, pos := "skip.go:119", after := #[], guard := none } : Go.Oper)) rfl (fun K hK => ?_) AllReadyIn.nil
                go_simp
                refine hK _ _ ?_
                clear hK K
                (try simp only [Act.put, List.getElem_toArray, List.getElem_cons_zero, List.getElem_cons_succ, List.setIfInBounds_toArray, List.set_cons_zero, List.set_cons_succ])
                refine wpAnyIn_ready (rs := [8]) (by kernel_rfl) (by simp) ?_
                refine AllReadyIn.cons (o := ({ dst := some 22, op := Go.Op.load 63 (Go.Operand.tmp 21), type := 63, pos := "skip.go:119", after := #[{ on := 7, ground := Go.Ground.data }], guard := none } : Go.Oper)) rfl (fun K hK => ?_) AllReadyIn.nil
                go_simp
                refine hK _ _ ?_
                clear hK K
                (try simp only [Act.put, List.getElem_toArray, List.getElem_cons_zero, List.getElem_cons_succ, List.setIfInBounds_toArray, List.set_cons_zero, List.set_cons_succ])
                refine wpAnyIn_ready (rs := [11]) (by kernel_rfl) (by simp) ?_
                refine AllReadyIn.cons (o := ({ dst := some 25, op := Go.Op.call { callee := Go.Callee.value (Go.Operand.func 46), args := #[Go.Operand.tmp 22, Go.Operand.tmp 23, Go.Operand.tmp 24], argTypes := #[63, 3, 72] }, type := 0, pos := "skip.go:119", after := #[{ on := 8, ground := Go.Ground.data }, { on := 9, ground := Go.Ground.data }, { on := 10, ground := Go.Ground.data }], guard := none } : Go.Oper)) rfl (fun K hK => ?_) AllReadyIn.nil
                go_simp
                refine ⟨trivial, fun h => (by simp [Fence.wide] at h), ?_⟩; have xw : Ext W W.drew := Ext.drew (Ext.rfl_ _); refine (hov _ _ J Jx W.drew (h0W.trans xw) hJ hJx hY (hJ _ _ _ _ _ hJ0 (Kept.of_ext xw) (fun _ h => h) (fun _ h => .inl h))).mono ?_; rintro e w' ⟨⟨v, rfl⟩, hend⟩
                refine hK _ _ ?_
                clear hK K
                (try simp only [Act.put, List.getElem_toArray, List.getElem_cons_zero, List.getElem_cons_succ, List.setIfInBounds_toArray, List.set_cons_zero, List.set_cons_succ])
                refine wpAnyIn_done (by kernel_rfl) ?_ _
            case' more75 =>
              refine AllReadyIn.cons (o := ({ dst := some 23, op := Go.Op.load 3 (Go.Operand.tmp 2), type := 3, pos := "skip.go:119", after := #[], guard := none } : Go.Oper)) rfl (fun K hK => ?_) AllReadyIn.nil
              go_simp
              refine hK _ _ ?_
              clear hK K
              (try simp only [Act.put, List.getElem_toArray, List.getElem_cons_zero, List.getElem_cons_succ, List.setIfInBounds_toArray, List.set_cons_zero, List.set_cons_succ])
              refine wpAnyIn_ready (rs := [5]) (by kernel_rfl) (by simp) ?_
              refine AllReadyIn.cons (o := ({ dst := some 19, op := Go.Op.nilCheck (Go.Operand.tmp 17), type := 0, pos := "skip.go:119", after := #[{ on := 3, ground := Go.Ground.data }], guard := none } : Go.Oper)) rfl (fun K hK => ?_) AllReadyIn.nil
              go_simp
              refine hK _ _ ?_
              clear hK K
              (try simp only [Act.put, List.getElem_toArray, List.getElem_cons_zero, List.getElem_cons_succ, List.setIfInBounds_toArray, List.set_cons_zero, List.set_cons_succ])
              refine wpAnyIn_take (i := 6) (oi := ({ dst := some 20, op := Go.Op.fieldAddr 79 (Go.Operand.tmp 19) 1, type := 0, pos := "skip.go:119", after := #[{ on := 5, ground := Go.Ground.data }], guard := none } : Go.Oper)) (v := ?v79) rfl rfl (by kernel_rfl) (by kernel_rfl) (by kernel_rfl) (fun _ _ _ h => h) ⟨Or.inl ⟨by rfl, ?hy79⟩, fun _ => rfl⟩ ?rest79
              case hy79 => (intro w; go_simp; (try with_reducible rfl))
              (try simp only [Act.put, List.getElem_toArray, List.getElem_cons_zero, List.getElem_cons_succ, List.setIfInBounds_toArray, List.set_cons_zero, List.set_cons_succ])
              refine wpAnyIn_take (i := 7) (oi := ({ dst := some 21, op := Go.Op.indexAddr 73 (Go.Operand.tmp 20) (Go.Operand.tmp 18), type := 0, pos := "skip.go:119", after := #[{ on := 6, ground := Go.Ground.data }, { on := 4, ground := Go.Ground.data }], guard := none } : Go.Oper)) (v := ?v80) rfl rfl (by kernel_rfl) (by kernel_rfl) (by kernel_rfl) (fun _ _ _ h => h) ⟨Or.inl ⟨by rfl, ?hy80⟩, fun _ => rfl⟩ ?rest80
              case hy80 => (intro w; go_simp; (try with_reducible rfl))
              (try simp only [Act.put, List.getElem_toArray, List.getElem_cons_zero, List.getElem_cons_succ, List.setIfInBounds_toArray, List.set_cons_zero, List.set_cons_succ])
              refine wpAnyIn_ready (rs := [8]) (by kernel_rfl) (by simp) ?_
              refine AllReadyIn.cons (o := ({ dst := some 22, op := Go.Op.load 63 (Go.Operand.tmp 21), type := 63, pos := "skip.go:119", after := #[{ on := 7, ground := Go.Ground.data }], guard := none } : Go.Oper)) rfl (fun K hK => ?_) AllReadyIn.nil
              go_simp
              refine hK _ _ ?_
              clear hK K
              (try simp only [Act.put, List.getElem_toArray, List.getElem_cons_zero, List.getElem_cons_succ, List.setIfInBounds_toArray, List.set_cons_zero, List.set_cons_succ])
              refine wpAnyIn_ready (rs := [11]) (by kernel_rfl) (by simp) ?_
              refine AllReadyIn.cons (o := ({ dst := some 25, op := Go.Op.call { callee := Go.Callee.value (Go.Operand.func 46), args := #[Go.Operand.tmp 22, Go.Operand.tmp 23, Go.Operand.tmp 24], argTypes := #[63, 3, 72] }, type := 0, pos := "skip.go:119", after := #[{ on := 8, ground := Go.Ground.data }, { on := 9, ground := Go.Ground.data }, { on := 10, ground := Go.Ground.data }], guard := none } : Go.Oper)) rfl (fun K hK => ?_) AllReadyIn.nil
              go_simp
              refine ⟨trivial, fun h => (by simp [Fence.wide] at h), ?_⟩; have xw : Ext W W.drew := Ext.drew (Ext.rfl_ _); refine (hov _ _ J Jx W.drew (h0W.trans xw) hJ hJx hY (hJ _ _ _ _ _ hJ0 (Kept.of_ext xw) (fun _ h => h) (fun _ h => .inl h))).mono ?_; rintro e w' ⟨⟨v, rfl⟩, hend⟩
              refine hK _ _ ?_
              clear hK K
              (try simp only [Act.put, List.getElem_toArray, List.getElem_cons_zero, List.getElem_cons_succ, List.setIfInBounds_toArray, List.set_cons_zero, List.set_cons_succ])
              refine wpAnyIn_done (by kernel_rfl) ?_ _
          case' more74 =>
            refine AllReadyIn.cons (o := ({ dst := some 23, op := Go.Op.load 3 (Go.Operand.tmp 2), type := 3, pos := "skip.go:119", after := #[], guard := none } : Go.Oper)) rfl (fun K hK => ?_) AllReadyIn.nil
            go_simp
            refine hK _ _ ?_
            clear hK K
            (try simp only [Act.put, List.getElem_toArray, List.getElem_cons_zero, List.getElem_cons_succ, List.setIfInBounds_toArray, List.set_cons_zero, List.set_cons_succ])
            refine wpAnyIn_ready (rs := [3]) (by kernel_rfl) (by simp) ?_
            refine AllReadyIn.cons (o := ({ dst := some 17, op := Go.Op.load 63 (Go.Operand.tmp 16), type := 63, pos := "skip.go:119", after := #[{ on := 2, ground := Go.Ground.data }], guard := none } : Go.Oper)) rfl (fun K hK => ?_) AllReadyIn.nil
            go_simp
            refine hK _ _ ?_
            clear hK K
            (try simp only [Act.put, List.getElem_toArray, List.getElem_cons_zero, List.getElem_cons_succ, List.setIfInBounds_toArray, List.set_cons_zero, List.set_cons_succ])
            refine wpAnyIn_ready (rs := [5]) (by kernel_rfl) (by simp) ?_
            refine AllReadyIn.cons (o := ({ dst := some 19, op := Go.Op.nilCheck (Go.Operand.tmp 17), type := 0, pos := "skip.go:119", after := #[{ on := 3, ground := Go.Ground.data }], guard := none } : Go.Oper)) rfl (fun K hK => ?_) AllReadyIn.nil
            go_simp
            refine hK _ _ ?_
            clear hK K
            (try simp only [Act.put, List.getElem_toArray, List.getElem_cons_zero, List.getElem_cons_succ, List.setIfInBounds_toArray, List.set_cons_zero, List.set_cons_succ])
            refine wpAnyIn_take (i := 6) (oi := ({ dst := some 20, op := Go.Op.fieldAddr 79 (Go.Operand.tmp 19) 1, type := 0, pos := "skip.go:119", after := #[{ on := 5, ground := Go.Ground.data }], guard := none } : Go.Oper)) (v := ?v81) rfl rfl (by kernel_rfl) (by kernel_rfl) (by kernel_rfl) (fun _ _ _ h => h) ⟨Or.inl ⟨by rfl, ?hy81⟩, fun _ => rfl⟩ ?rest81
            case hy81 => (intro w; go_simp; (try with_reducible rfl))
            (try simp only [Act.put, List.getElem_toArray, List.getElem_cons_zero, List.getElem_cons_succ, List.setIfInBounds_toArray, List.set_cons_zero, List.set_cons_succ])
            refine wpAnyIn_take (i := 7) (oi := ({ dst := some 21, op := Go.Op.indexAddr 73 (Go.Operand.tmp 20) (Go.Operand.tmp 18), type := 0, pos := "skip.go:119", after := #[{ on := 6, ground := Go.Ground.data }, { on := 4, ground := Go.Ground.data }], guard := none } : Go.Oper)) (v := ?v82) rfl rfl (by kernel_rfl) (by kernel_rfl) (by kernel_rfl) (fun _ _ _ h => h) ⟨Or.inl ⟨by rfl, ?hy82⟩, fun _ => rfl⟩ ?rest82
            case hy82 => (intro w; go_simp; (try with_reducible rfl))
            (try simp only [Act.put, List.getElem_toArray, List.getElem_cons_zero, List.getElem_cons_succ, List.setIfInBounds_toArray, List.set_cons_zero, List.set_cons_succ])
            refine wpAnyIn_ready (rs := [8]) (by kernel_rfl) (by simp) ?_
            refine AllReadyIn.cons (o := ({ dst := some 22, op := Go.Op.load 63 (Go.Operand.tmp 21), type := 63, pos := "skip.go:119", after := #[{ on := 7, ground := Go.Ground.data }], guard := none } : Go.Oper)) rfl (fun K hK => ?_) AllReadyIn.nil
            go_simp
            refine hK _ _ ?_
            clear hK K
            (try simp only [Act.put, List.getElem_toArray, List.getElem_cons_zero, List.getElem_cons_succ, List.setIfInBounds_toArray, List.set_cons_zero, List.set_cons_succ])
            refine wpAnyIn_ready (rs := [11]) (by kernel_rfl) (by simp) ?_
            refine AllReadyIn.cons (o := ({ dst := some 25, op := Go.Op.call { callee := Go.Callee.value (Go.Operand.func 46), args := #[Go.Operand.tmp 22, Go.Operand.tmp 23, Go.Operand.tmp 24], argTypes := #[63, 3, 72] }, type := 0, pos := "skip.go:119", after := #[{ on := 8, ground := Go.Ground.data }, { on := 9, ground := Go.Ground.data }, { on := 10, ground := Go.Ground.data }], guard := none } : Go.Oper)) rfl (fun K hK => ?_) AllReadyIn.nil
            go_simp
            refine ⟨trivial, fun h => (by simp [Fence.wide] at h), ?_⟩; have xw : Ext W W.drew := Ext.drew (Ext.rfl_ _); refine (hov _ _ J Jx W.drew (h0W.trans xw) hJ hJx hY (hJ _ _ _ _ _ hJ0 (Kept.of_ext xw) (fun _ h => h) (fun _ h => .inl h))).mono ?_; rintro e w' ⟨⟨v, rfl⟩, hend⟩
            refine hK _ _ ?_
            clear hK K
            (try simp only [Act.put, List.getElem_toArray, List.getElem_cons_zero, List.getElem_cons_succ, List.setIfInBounds_toArray, List.set_cons_zero, List.set_cons_succ])
            refine wpAnyIn_done (by kernel_rfl) ?_ _
        case' more72 =>
          refine AllReadyIn.cons (o := ({ dst := some 23, op := Go.Op.load 3 (Go.Operand.tmp 2), type := 3, pos := "skip.go:119", after := #[], guard := none } : Go.Oper)) rfl (fun K hK => ?_) AllReadyIn.nil
          go_simp
          refine hK _ _ ?_
          clear hK K
          (try simp only [Act.put, List.getElem_toArray, List.getElem_cons_zero, List.getElem_cons_succ, List.setIfInBounds_toArray, List.set_cons_zero, List.set_cons_succ])
          refine wpAnyIn_ready (rs := [1]) (by kernel_rfl) (by simp) ?_
          refine AllReadyIn.cons (o := ({ dst := some 15, op := Go.Op.nilCheck (Go.Operand.tmp 14), type := 0, pos := "skip.go:119", after := #[{ on := 0, ground := Go.Ground.data }], guard := none } : Go.Oper)) rfl (fun K hK => ?_) AllReadyIn.nil
          go_simp
          refine hK _ _ ?_
          clear hK K
          (try simp only [Act.put, List.getElem_toArray, List.getElem_cons_zero, List.getElem_cons_succ, List.setIfInBounds_toArray, List.set_cons_zero, List.set_cons_succ])
          refine wpAnyIn_take (i := 2) (oi := ({ dst := some 16, op := Go.Op.fieldAddr 65 (Go.Operand.tmp 15) 0, type := 0, pos := "skip.go:119", after := #[{ on := 1, ground := Go.Ground.data }], guard := none } : Go.Oper)) (v := ?v83) rfl rfl (by kernel_rfl) (by kernel_rfl) (by kernel_rfl) (fun _ _ _ h => h) ⟨Or.inl ⟨by rfl, ?hy83⟩, fun _ => rfl⟩ ?rest83
          case hy83 => (intro w; go_simp; (try with_reducible rfl))
          (try simp only [Act.put, List.getElem_toArray, List.getElem_cons_zero, List.getElem_cons_succ, List.setIfInBounds_toArray, List.set_cons_zero, List.set_cons_succ])
          refine wpAnyIn_ready (rs := [3]) (by kernel_rfl) (by simp) ?_
          refine AllReadyIn.cons (o := ({ dst := some 17, op := Go.Op.load 63 (Go.Operand.tmp 16), type := 63, pos := "skip.go:119", after := #[{ on := 2, ground := Go.Ground.data }], guard := none } : Go.Oper)) rfl (fun K hK => ?_) AllReadyIn.nil
          go_simp
          refine hK _ _ ?_
          clear hK K
          (try simp only [Act.put, List.getElem_toArray, List.getElem_cons_zero, List.getElem_cons_succ, List.setIfInBounds_toArray, List.set_cons_zero, List.set_cons_succ])
          refine wpAnyIn_ready (rs := [5]) (by kernel_rfl) (by simp) ?_
          refine AllReadyIn.cons (o := ({ dst := some 19, op := Go.Op.nilCheck (Go.Operand.tmp 17), type := 0, pos := "skip.go:119", after := #[{ on := 3, ground := Go.Ground.data }], guard := none } : Go.Oper)) rfl (fun K hK => ?_) AllReadyIn.nil
          go_simp
          refine hK _ _ ?_
          clear hK K
          (try simp only [Act.put, List.getElem_toArray, List.getElem_cons_zero, List.getElem_cons_succ, List.setIfInBounds_toArray, List.set_cons_zero, List.set_cons_succ])
          refine wpAnyIn_take (i := 6) (oi := ({ dst := some 20, op := Go.Op.fieldAddr 79 (Go.Operand.tmp 19) 1, type := 0, pos := "skip.go:119", after := #[{ on := 5, ground := Go.Ground.data }], guard := none } : Go.Oper)) (v := ?v84) rfl rfl (by kernel_rfl) (by kernel_rfl) (by kernel_rfl) (fun _ _ _ h => h) ⟨Or.inl ⟨by rfl, ?hy84⟩, fun _ => rfl⟩ ?rest84
          case hy84 => (intro w; go_simp; (try with_reducible rfl))
          (try simp only [Act.put, List.getElem_toArray, List.getElem_cons_zero, List.getElem_cons_succ, List.setIfInBounds_toArray, List.set_cons_zero, List.set_cons_succ])
          refine wpAnyIn_take (i := 7) (oi := ({ dst := some 21, op := Go.Op.indexAddr 73 (Go.Operand.tmp 20) (Go.Operand.tmp 18), type := 0, pos := "skip.go:119", after := #[{ on := 6, ground := Go.Ground.data }, { on := 4, ground := Go.Ground.data }], guard := none } : Go.Oper)) (v := ?v85) rfl rfl (by kernel_rfl) (by kernel_rfl) (by kernel_rfl) (fun _ _ _ h => h) ⟨Or.inl ⟨by rfl, ?hy85⟩, fun _ => rfl⟩ ?rest85
          case hy85 => (intro w; go_simp; (try with_reducible rfl))
          (try simp only [Act.put, List.getElem_toArray, List.getElem_cons_zero, List.getElem_cons_succ, List.setIfInBounds_toArray, List.set_cons_zero, List.set_cons_succ])
          refine wpAnyIn_ready (rs := [8]) (by kernel_rfl) (by simp) ?_
          refine AllReadyIn.cons (o := ({ dst := some 22, op := Go.Op.load 63 (Go.Operand.tmp 21), type := 63, pos := "skip.go:119", after := #[{ on := 7, ground := Go.Ground.data }], guard := none } : Go.Oper)) rfl (fun K hK => ?_) AllReadyIn.nil
          go_simp
          refine hK _ _ ?_
          clear hK K
          (try simp only [Act.put, List.getElem_toArray, List.getElem_cons_zero, List.getElem_cons_succ, List.setIfInBounds_toArray, List.set_cons_zero, List.set_cons_succ])
          refine wpAnyIn_ready (rs := [11]) (by kernel_rfl) (by simp) ?_
          refine AllReadyIn.cons (o := ({ dst := some 25, op := Go.Op.call { callee := Go.Callee.value (Go.Operand.func 46), args := #[Go.Operand.tmp 22, Go.Operand.tmp 23, Go.Operand.tmp 24], argTypes := #[63, 3, 72] }, type := 0, pos := "skip.go:119", after := #[{ on := 8, ground := Go.Ground.data }, { on := 9, ground := Go.Ground.data }, { on := 10, ground := Go.Ground.data }], guard := none } : Go.Oper)) rfl (fun K hK => ?_) AllReadyIn.nil
          go_simp
          refine ⟨trivial, fun h => (by simp [Fence.wide] at h), ?_⟩; have xw : Ext W W.drew := Ext.drew (Ext.rfl_ _); refine (hov _ _ J Jx W.drew (h0W.trans xw) hJ hJx hY (hJ _ _ _ _ _ hJ0 (Kept.of_ext xw) (fun _ h => h) (fun _ h => .inl h))).mono ?_; rintro e w' ⟨⟨v, rfl⟩, hend⟩
          refine hK _ _ ?_
          clear hK K
          (try simp only [Act.put, List.getElem_toArray, List.getElem_cons_zero, List.getElem_cons_succ, List.setIfInBounds_toArray, List.set_cons_zero, List.set_cons_succ])
          refine wpAnyIn_done (by kernel_rfl) ?_ _
      case' more71 =>
        refine AllReadyIn.cons (o := ({ dst := some 23, op := Go.Op.load 3 (Go.Operand.tmp 2), type := 3, pos := "skip.go:119", after := #[], guard := none } : Go.Oper)) rfl (fun K hK => ?_) AllReadyIn.nil
        go_simp
        refine hK _ _ ?_
        clear hK K
        (try simp only [Act.put, List.getElem_toArray, List.getElem_cons_zero, List.getElem_cons_succ, List.setIfInBounds_toArray, List.set_cons_zero, List.set_cons_succ])
        refine wpAnyIn_ready (rs := [0]) (by kernel_rfl) (by simp) ?_
        refine AllReadyIn.cons (o := ({ dst := some 14, op := Go.Op.load 28 (Go.Operand.tmp 1), type := 28, pos := "skip.go:119", after := #[], guard := none } : Go.Oper)) rfl (fun K hK => ?_) AllReadyIn.nil
        go_simp
        refine hK _ _ ?_
        clear hK K
        (try simp only [Act.put, List.getElem_toArray, List.getElem_cons_zero, List.getElem_cons_succ, List.setIfInBounds_toArray, List.set_cons_zero, List.set_cons_succ])
        refine wpAnyIn_ready (rs := [1]) (by kernel_rfl) (by simp) ?_
        refine AllReadyIn.cons (o := ({ dst := some 15, op := Go.Op.nilCheck (Go.Operand.tmp 14), type := 0, pos := "skip.go:119", after := #[{ on := 0, ground := Go.Ground.data }], guard := none } : Go.Oper)) rfl (fun K hK => ?_) AllReadyIn.nil
        go_simp
        refine hK _ _ ?_
        clear hK K
        (try simp only [Act.put, List.getElem_toArray, List.getElem_cons_zero, List.getElem_cons_succ, List.setIfInBounds_toArray, List.set_cons_zero, List.set_cons_succ])
        refine wpAnyIn_take (i := 2) (oi := ({ dst := some 16, op := Go.Op.fieldAddr 65 (Go.Operand.tmp 15) 0, type := 0, pos := "skip.go:119", after := #[{ on := 1, ground := Go.Ground.data }], guard := none } : Go.Oper)) (v := ?v86) rfl rfl (by kernel_rfl) (by kernel_rfl) (by kernel_rfl) (fun _ _ _ h => h) ⟨Or.inl ⟨by rfl, ?hy86⟩, fun _ => rfl⟩ ?rest86
        case hy86 => (intro w; go_simp; (try with_reducible rfl))
        (try simp only [Act.put, List.getElem_toArray, List.getElem_cons_zero, List.getElem_cons_succ, List.setIfInBounds_toArray, List.set_cons_zero, List.set_cons_succ])
        refine wpAnyIn_ready (rs := [3]) (by kernel_rfl) (by simp) ?_
        refine AllReadyIn.cons (o := ({ dst := some 17, op := Go.Op.load 63 (Go.Operand.tmp 16), type := 63, pos := "skip.go:119", after := #[{ on := 2, ground := Go.Ground.data }], guard := none } : Go.Oper)) rfl (fun K hK => ?_) AllReadyIn.nil
        go_simp
        refine hK _ _ ?_
        clear hK K
        (try simp only [Act.put, List.getElem_toArray, List.getElem_cons_zero, List.getElem_cons_succ, List.setIfInBounds_toArray, List.set_cons_zero, List.set_cons_succ])
        refine wpAnyIn_ready (rs := [5]) (by kernel_rfl) (by simp) ?_
        refine AllReadyIn.cons (o := ({ dst := some 19, op := Go.Op.nilCheck (Go.Operand.tmp 17), type := 0, pos := "skip.go:119", after := #[{ on := 3, ground := Go.Ground.data }], guard := none } : Go.Oper)) rfl (fun K hK => ?_) AllReadyIn.nil
        go_simp
        refine hK _ _ ?_
        clear hK K
        (try simp only [Act.put, List.getElem_toArray, List.getElem_cons_zero, List.getElem_cons_succ, List.setIfInBounds_toArray, List.set_cons_zero, List.set_cons_succ])
        refine wpAnyIn_take (i := 6) (oi := ({ dst := some 20, op := Go.Op.fieldAddr 79 (Go.Operand.tmp 19) 1, type := 0, pos := "skip.go:119", after := #[{ on := 5, ground := Go.Ground.data }], guard := none } : Go.Oper)) (v := ?v87) rfl rfl (by kernel_rfl) (by kernel_rfl) (by kernel_rfl) (fun _ _ _ h => h) ⟨Or.inl ⟨by rfl, ?hy87⟩, fun _ => rfl⟩ ?rest87
        case hy87 => (intro w; go_simp; (try with_reducible rfl))
        (try simp only [Act.put, List.getElem_toArray, List.getElem_cons_zero, List.getElem_cons_succ, List.setIfInBounds_toArray, List.set_cons_zero, List.set_cons_succ])
        refine wpAnyIn_take (i := 7) (oi := ({ dst := some 21, op := Go.Op.indexAddr 73 (Go.Operand.tmp 20) (Go.Operand.tmp 18), type := 0, pos := "skip.go:119", after := #[{ on := 6, ground := Go.Ground.data }, { on := 4, ground := Go.Ground.data }], guard := none } : Go.Oper)) (v := ?v88) rfl rfl (by kernel_rfl) (by kernel_rfl) (by kernel_rfl) (fun _ _ _ h => h) ⟨Or.inl ⟨by rfl, ?hy88⟩, fun _ => rfl⟩ ?rest88
        case hy88 => (intro w; go_simp; (try with_reducible rfl))
        (try simp only [Act.put, List.getElem_toArray, List.getElem_cons_zero, List.getElem_cons_succ, List.setIfInBounds_toArray, List.set_cons_zero, List.set_cons_succ])
        refine wpAnyIn_ready (rs := [8]) (by kernel_rfl) (by simp) ?_
        refine AllReadyIn.cons (o := ({ dst := some 22, op := Go.Op.load 63 (Go.Operand.tmp 21), type := 63, pos := "skip.go:119", after := #[{ on := 7, ground := Go.Ground.data }], guard := none } : Go.Oper)) rfl (fun K hK => ?_) AllReadyIn.nil
        go_simp
        refine hK _ _ ?_
        clear hK K
        (try simp only [Act.put, List.getElem_toArray, List.getElem_cons_zero, List.getElem_cons_succ, List.setIfInBounds_toArray, List.set_cons_zero, List.set_cons_succ])
        refine wpAnyIn_ready (rs := [11]) (by kernel_rfl) (by simp) ?_
        refine AllReadyIn.cons (o := ({ dst := some 25, op := Go.Op.call { callee := Go.Callee.value (Go.Operand.func 46), args := #[Go.Operand.tmp 22, Go.Operand.tmp 23, Go.Operand.tmp 24], argTypes := #[63, 3, 72] }, type := 0, pos := "skip.go:119", after := #[{ on := 8, ground := Go.Ground.data }, { on := 9, ground := Go.Ground.data }, { on := 10, ground := Go.Ground.data }], guard := none } : Go.Oper)) rfl (fun K hK => ?_) AllReadyIn.nil
        go_simp
        refine ⟨trivial, fun h => (by simp [Fence.wide] at h), ?_⟩; have xw : Ext W W.drew := Ext.drew (Ext.rfl_ _); refine (hov _ _ J Jx W.drew (h0W.trans xw) hJ hJx hY (hJ _ _ _ _ _ hJ0 (Kept.of_ext xw) (fun _ h => h) (fun _ h => .inl h))).mono ?_; rintro e w' ⟨⟨v, rfl⟩, hend⟩
        refine hK _ _ ?_
        clear hK K
        (try simp only [Act.put, List.getElem_toArray, List.getElem_cons_zero, List.getElem_cons_succ, List.setIfInBounds_toArray, List.set_cons_zero, List.set_cons_succ])
        refine wpAnyIn_done (by kernel_rfl) ?_ _
    case' more70 =>
      refine AllReadyIn.cons (o := ({ dst := some 23, op := Go.Op.load 3 (Go.Operand.tmp 2), type := 3, pos := "skip.go:119", after := #[], guard := none } : Go.Oper)) rfl (fun K hK => ?_) AllReadyIn.nil
      go_simp
      refine hK _ _ ?_
      clear hK K
      (try simp only [Act.put, List.getElem_toArray, List.getElem_cons_zero, List.getElem_cons_succ, List.setIfInBounds_toArray, List.set_cons_zero, List.set_cons_succ])
      refine wpAnyIn_ready (rs := [0, 4]) (by kernel_rfl) (by simp) ?_
      refine AllReadyIn.cons (o := ({ dst := some 14, op := Go.Op.load 28 (Go.Operand.tmp 1), type := 28, pos := "skip.go:119", after := #[], guard := none } : Go.Oper)) rfl (fun K hK => ?one89) ?more89
      case' one89 =>
        go_simp
        refine hK _ _ ?_
        clear hK K
        (try simp only [Act.put, List.getElem_toArray, List.getElem_cons_zero, List.getElem_cons_succ, List.setIfInBounds_toArray, List.set_cons_zero, List.set_cons_succ])
        refine wpAnyIn_ready (rs := [1, 4]) (by kernel_rfl) (by simp) ?_
        refine AllReadyIn.cons (o := ({ dst := some 15, op := Go.Op.nilCheck (Go.Operand.tmp 14), type := 0, pos := "skip.go:119", after := #[{ on := 0, ground := Go.Ground.data }], guard := none } : Go.Oper)) rfl (fun K hK => ?one90) ?more90
        case' one90 =>
          go_simp
          refine hK _ _ ?_
          clear hK K
          (try simp only [Act.put, List.getElem_toArray, List.getElem_cons_zero, List.getElem_cons_succ, List.setIfInBounds_toArray, List.set_cons_zero, List.set_cons_succ])
          refine wpAnyIn_take (i := 2) (oi := ({ dst := some 16, op := Go.Op.fieldAddr 65 (Go.Operand.tmp 15) 0, type := 0, pos := "skip.go:119", after := #[{ on := 1, ground := Go.Ground.data }], guard := none } : Go.Oper)) (v := ?v91) rfl rfl (by kernel_rfl) (by kernel_rfl) (by kernel_rfl) (fun _ _ _ h => h) ⟨Or.inl ⟨by rfl, ?hy91⟩, fun _ => rfl⟩ ?rest91
          case hy91 => (intro w; go_simp; (try with_reducible rfl))
          (try simp only [Act.put, List.getElem_toArray, List.getElem_cons_zero, List.getElem_cons_succ, List.setIfInBounds_toArray, List.set_cons_zero, List.set_cons_succ])
          refine wpAnyIn_ready (rs := [3, 4]) (by kernel_rfl) (by simp) ?_
          refine AllReadyIn.cons (o := ({ dst := some 17, op := Go.Op.load 63 (Go.Operand.tmp 16), type := 63, pos := "skip.go:119", after := #[{ on := 2, ground := Go.Ground.data }], guard := none } : Go.Oper)) rfl (fun K hK => ?one92) ?more92
          case' one92 =>
            go_simp
            refine hK _ _ ?_
            clear hK K
            (try simp only [Act.put, List.getElem_toArray, List.getElem_cons_zero, List.getElem_cons_succ, List.setIfInBounds_toArray, List.set_cons_zero, List.set_cons_succ])
            refine wpAnyIn_ready (rs := [4, 5]) (by kernel_rfl) (by simp) ?_
            refine AllReadyIn.cons (o := ({ dst := some 18, op := Go.Op.load 3 (Go.Operand.tmp 2), type := 3, pos := "skip.go:119", after := #[], guard := none } : Go.Oper)) rfl (fun K hK => ?one93) ?more93
            case' one93 =>
              go_simp
              refine hK _ _ ?_
              clear hK K
              (try simp only [Act.put, List.getElem_toArray, List.getElem_cons_zero, List.getElem_cons_succ, List.setIfInBounds_toArray, List.set_cons_zero, List.set_cons_succ])
              refine wpAnyIn_ready (rs := [5]) (by kernel_rfl) (by simp) ?_
              refine AllReadyIn.cons (o := ({ dst := some 19, op := Go.Op.nilCheck (Go.Operand.tmp 17), type := 0, pos := "skip.go:119", after := #[{ on := 3, ground := Go.Ground.data }], guard := none } : Go.Oper)) rfl (fun K hK => ?_) AllReadyIn.nil
              go_simp
              refine hK _ _ ?_
              clear hK K
              (try simp only [Act.put, List.getElem_toArray, List.getElem_cons_zero, List.getElem_cons_succ, List.setIfInBounds_toArray, List.set_cons_zero, List.set_cons_succ])
              refine wpAnyIn_take (i := 6) (oi := ({ dst := some 20, op := Go.Op.fieldAddr 79 (Go.Operand.tmp 19) 1, type := 0, pos := "skip.go:119", after := #[{ on := 5, ground := Go.Ground.data }], guard := none } : Go.Oper)) (v := ?v94) rfl rfl (by kernel_rfl) (by kernel_rfl) (by kernel_rfl) (fun _ _ _ h => h) ⟨Or.inl ⟨by rfl, ?hy94⟩, fun _ => rfl⟩ ?rest94
              case hy94 => (intro w; go_simp; (try with_reducible rfl))
              (try simp only [Act.put, List.getElem_toArray, List.getElem_cons_zero, List.getElem_cons_succ, List.setIfInBounds_toArray, List.set_cons_zero, List.set_cons_succ])
              refine wpAnyIn_take (i := 7) (oi := ({ dst := some 21, op := Go.Op.indexAddr 73 (Go.Operand.tmp 20) (Go.Operand.tmp 18), type := 0, pos := "skip.go:119", after := #[{ on := 6, ground := Go.Ground.data }, { on := 4, ground := Go.Ground.data }], guard := none } : Go.Oper)) (v := ?v95) rfl rfl (by kernel_rfl) (by kernel_rfl) (by kernel_rfl) (fun _ _ _ h => h) ⟨Or.inl ⟨by rfl, ?hy95⟩, fun _ => rfl⟩ ?rest95
              case hy95 => (intro w; go_simp; (try with_reducible rfl))
              (try simp only [Act.put, List.getElem_toArray, List.getElem_cons_zero, List.getElem_cons_succ, List.setIfInBounds_toArray, List.set_cons_zero, List.set_cons_succ])
              refine wpAnyIn_ready (rs := [8]) (by kernel_rfl) (by simp) ?_
              refine AllReadyIn.cons (o := ({ dst := some 22, op := Go.Op.load 63 (Go.Operand.tmp 21), type := 63, pos := "skip.go:119", after := #[{ on := 7, ground := Go.Ground.data }], guard := none } : Go.Oper)) rfl (fun K hK => ?_) AllReadyIn.nil
              go_simp
              refine hK _ _ ?_
              clear hK K
              (try simp only [Act.put, List.getElem_toArray, List.getElem_cons_zero, List.getElem_cons_succ, List.setIfInBounds_toArray, List.set_cons_zero, List.set_cons_succ])
              refine wpAnyIn_ready (rs := [11]) (by kernel_rfl) (by simp) ?_
              refine AllReadyIn.cons (o := ({ dst := some 25, op := Go.Op.call { callee := Go.Callee.value (Go.Operand.func 46), args := #[Go.Operand.tmp 22, Go.Operand.tmp 23, Go.Operand.tmp 24], argTypes := #[63, 3, 72] }, type := 0, pos := "skip.go:119", after := #[{ on := 8, ground := Go.Ground.data }, { on := 9, ground := Go.Ground.data }, { on := 10, ground := Go.Ground.data }], guard := none } : Go.Oper)) rfl (fun K hK => ?_) AllReadyIn.nil
              go_simp
              refine ⟨trivial, fun h => (by simp [Fence.wide] at h), ?_⟩; have xw : Ext W W.drew := Ext.drew (Ext.rfl_ _); refine (hov _ _ J Jx W.drew (h0W.trans xw) hJ hJx hY (hJ _ _ _ _ _ hJ0 (Kept.of_ext xw) (fun _ h => h) (fun _ h => .inl h))).mono ?_; rintro e w' ⟨⟨v, rfl⟩, hend⟩
              refine hK _ _ ?_
              clear hK K
              (try simp only [Act.put, List.getElem_toArray, List.getElem_cons_zero, List.getElem_cons_succ, List.setIfInBounds_toArray, List.set_cons_zero, List.set_cons_succ])
              refine wpAnyIn_done (by kernel_rfl) ?_ _
            case' more93 =>
              refine AllReadyIn.cons (o := ({ dst := some 19, op := Go.Op.nilCheck (Go.Operand.tmp 17), type := 0, pos := "skip.go:119", after := #[{ on := 3, ground := Go.Ground.data }], guard := none } : Go.Oper)) rfl (fun K hK => ?_) AllReadyIn.nil
              go_simp
              refine hK _ _ ?_
              clear hK K
              (try simp only [Act.put, List.getElem_toArray, List.getElem_cons_zero, List.getElem_cons_succ, List.setIfInBounds_toArray, List.set_cons_zero, List.set_cons_succ])
              refine wpAnyIn_take (i := 6) (oi := ({ dst := some 20, op := Go.Op.fieldAddr 79 (Go.Operand.tmp 19) 1, type := 0, pos := "skip.go:119", after := #[{ on := 5, ground := Go.Ground.data }], guard := none } : Go.Oper)) (v := ?v96) rfl rfl (by kernel_rfl) (by kernel_rfl) (by kernel_rfl) (fun _ _ _ h => h) ⟨Or.inl ⟨by rfl, ?hy96⟩, fun _ => rfl⟩ ?rest96
              case hy96 => (intro w; go_simp; (try with_reducible rfl))
              (try simp only [Act.put, List.getElem_toArray, List.getElem_cons_zero, List.getElem_cons_succ, List.setIfInBounds_toArray, List.set_cons_zero, List.set_cons_succ])
              refine wpAnyIn_ready (rs := [4]) (by kernel_rfl) (by simp) ?_
              refine AllReadyIn.cons (o := ({ dst := some 18, op := Go.Op.load 3 (Go.Operand.tmp 2), type := 3, pos := "skip.go:119", after := #[], guard := none } : Go.Oper)) rfl (fun K hK => ?_) AllReadyIn.nil
              go_simp
              refine hK _ _ ?_
              clear hK K
              (try simp only [Act.put, List.getElem_toArray, List.getElem_cons_zero, List.getElem_cons_succ, List.setIfInBounds_toArray, List.set_cons_zero, List.set_cons_succ])
              refine wpAnyIn_take (i := 7) (oi := ({ dst := some 21, op := Go.Op.indexAddr 73 (Go.Operand.tmp 20) (Go.Operand.tmp 18), type := 0, pos := "skip.go:119", after := #[{ on := 6, ground := Go.Ground.data }, { on := 4, ground := Go.Ground.data }], guard := none } : Go.Oper)) (v := ?v97) rfl rfl (by kernel_rfl) (by kernel_rfl) (by kernel_rfl) (fun _ _ _ h => h) ⟨Or.inl ⟨by rfl, ?hy97⟩, fun _ => rfl⟩ ?rest97
              case hy97 => (intro w; go_simp; (try with_reducible rfl))
              (try simp only [Act.put, List.getElem_toArray, List.getElem_cons_zero, List.getElem_cons_succ, List.setIfInBounds_toArray, List.set_cons_zero, List.set_cons_succ])
              refine wpAnyIn_ready (rs := [8]) (by kernel_rfl) (by simp) ?_
              refine AllReadyIn.cons (o := ({ dst := some 22, op := Go.Op.load 63 (Go.Operand.tmp 21), type := 63, pos := "skip.go:119", after := #[{ on := 7, ground := Go.Ground.data }], guard := none } : Go.Oper)) rfl (fun K hK => ?_) AllReadyIn.nil
              go_simp
              refine hK _ _ ?_
              clear hK K
              (try simp only [Act.put, List.getElem_toArray, List.getElem_cons_zero, List.getElem_cons_succ, List.setIfInBounds_toArray, List.set_cons_zero, List.set_cons_succ])
              refine wpAnyIn_ready (rs := [11]) (by kernel_rfl) (by simp) ?_
              refine AllReadyIn.cons (o := ({ dst := some 25, op := Go.Op.call { callee := Go.Callee.value (Go.Operand.func 46), args := #[Go.Operand.tmp 22, Go.Operand.tmp 23, Go.Operand.tmp 24], argTypes := #[63, 3, 72] }, type := 0, pos := "skip.go:119", after := #[{ on := 8, ground := Go.Ground.data }, { on := 9, ground := Go.Ground.data }, { on := 10, ground := Go.Ground.data }], guard := none } : Go.Oper)) rfl (fun K hK => ?_) AllReadyIn.nil
              go_simp
              refine ⟨trivial, fun h => (by simp [Fence.wide] at h), ?_⟩; have xw : Ext W W.drew := Ext.drew (Ext.rfl_ _); refine (hov _ _ J Jx W.drew (h0W.trans xw) hJ hJx hY (hJ _ _ _ _ _ hJ0 (Kept.of_ext xw) (fun _ h => h) (fun _ h => .inl h))).mono ?_; rintro e w' ⟨⟨v, rfl⟩, hend⟩
              refine hK _ _ ?_
              clear hK K
              (try simp only [Act.put, List.getElem_toArray, List.getElem_cons_zero, List.getElem_cons_succ, List.setIfInBounds_toArray, List.set_cons_zero, List.set_cons_succ])
              refine wpAnyIn_done (by kernel_rfl) ?_ _
          case' more92 =>
            refine AllReadyIn.cons (o := ({ dst := some 18, op := Go.Op.load 3 (Go.Operand.tmp 2), type := 3, pos := "skip.go:119", after := #[], guard := none } : Go.Oper)) rfl (fun K hK => ?_) AllReadyIn.nil
            go_simp
            refine hK _ _ ?_
            clear hK K
            (try simp only [Act.put, List.getElem_toArray, List.getElem_cons_zero, List.getElem_cons_succ, List.setIfInBounds_toArray, List.set_cons_zero, List.set_cons_succ])
            refine wpAnyIn_ready (rs := [3]) (by kernel_rfl) (by simp) ?_
            refine AllReadyIn.cons (o := ({ dst := some 17, op := Go.Op.load 63 (Go.Operand.tmp 16), type := 63, pos := "skip.go:119", after := #[{ on := 2, ground := Go.Ground.data }], guard := none } : Go.Oper)) rfl (fun K hK => ?_) AllReadyIn.nil
            go_simp
            refine hK _ _ ?_
            clear hK K
            (try simp only [Act.put, List.getElem_toArray, List.getElem_cons_zero, List.getElem_cons_succ, List.setIfInBounds_toArray, List.set_cons_zero, List.set_cons_succ])
            refine wpAnyIn_ready (rs := [5]) (by kernel_rfl) (by simp) ?_
            refine AllReadyIn.cons (o := ({ dst := some 19, op := Go.Op.nilCheck (Go.Operand.tmp 17), type := 0, pos := "skip.go:119", after := #[{ on := 3, ground := Go.Ground.data }], guard := none } : Go.Oper)) rfl (fun K hK => ?_) AllReadyIn.nil
            go_simp
            refine hK _ _ ?_
            clear hK K
            (try simp only [Act.put, List.getElem_toArray, List.getElem_cons_zero, List.getElem_cons_succ, List.setIfInBounds_toArray, List.set_cons_zero, List.set_cons_succ])
            refine wpAnyIn_take (i := 6) (oi := ({ dst := some 20, op := Go.Op.fieldAddr 79 (Go.Operand.tmp 19) 1, type := 0, pos := "skip.go:119", after := #[{ on := 5, ground := Go.Ground.data }], guard := none } : Go.Oper)) (v := ?v98) rfl rfl (by kernel_rfl) (by kernel_rfl) (by kernel_rfl) (fun _ _ _ h => h) ⟨Or.inl ⟨by rfl, ?hy98⟩, fun _ => rfl⟩ ?rest98
            case hy98 => (intro w; go_simp; (try with_reducible rfl))
            (try simp only [Act.put, List.getElem_toArray, List.getElem_cons_zero, List.getElem_cons_succ, List.setIfInBounds_toArray, List.set_cons_zero, List.set_cons_succ])
            refine wpAnyIn_take (i := 7) (oi := ({ dst := some 21, op := Go.Op.indexAddr 73 (Go.Operand.tmp 20) (Go.Operand.tmp 18), type := 0, pos := "skip.go:119", after := #[{ on := 6, ground := Go.Ground.data }, { on := 4, ground := Go.Ground.data }], guard := none } : Go.Oper)) (v := ?v99) rfl rfl (by kernel_rfl) (by kernel_rfl) (by kernel_rfl) (fun _ _ _ h => h) ⟨Or.inl ⟨by rfl, ?hy99⟩, fun _ => rfl⟩ ?rest99
            case hy99 => (intro w; go_simp; (try with_reducible rfl))
            (try simp only [Act.put, List.getElem_toArray, List.getElem_cons_zero, List.getElem_cons_succ, List.setIfInBounds_toArray, List.set_cons_zero, List.set_cons_succ])
            refine wpAnyIn_ready (rs := [8]) (by kernel_rfl) (by simp) ?_
            refine AllReadyIn.cons (o := ({ dst := some 22, op := Go.Op.load 63 (Go.Operand.tmp 21), type := 63, pos := "skip.go:119", after := #[{ on := 7, ground := Go.Ground.data }], guard := none } : Go.Oper)) rfl (fun K hK => ?_) AllReadyIn.nil
            go_simp
            refine hK _ _ ?_
            clear hK K
            (try simp only [Act.put, List.getElem_toArray, List.getElem_cons_zero, List.getElem_cons_succ, List.setIfInBounds_toArray, List.set_cons_zero, List.set_cons_succ])
            refine wpAnyIn_ready (rs := [11]) (by kernel_rfl) (by simp) ?_
            refine AllReadyIn.cons (o := ({ dst := some 25, op := Go.Op.call { callee := Go.Callee.value (Go.Operand.func 46), args := #[Go.Operand.tmp 22, Go.Operand.tmp 23, Go.Operand.tmp 24], argTypes := #[63, 3, 72] }, type := 0, pos := "skip.go:119", after := #[{ on := 8, ground := Go.Ground.data }, { on := 9, ground := Go.Ground.data }, { on := 10, ground := Go.Ground.data }], guard := none } : Go.Oper)) rfl (fun K hK => ?_) AllReadyIn.nil
            go_simp
            refine ⟨trivial, fun h => (by simp [Fence.wide] at h), ?_⟩; have xw : Ext W W.drew := Ext.drew (Ext.rfl_ _); refine (hov _ _ J Jx W.drew (h0W.trans xw) hJ hJx hY (hJ _ _ _ _ _ hJ0 (Kept.of_ext xw) (fun _ h => h) (fun _ h => .inl h))).mono ?_; rintro e w' ⟨⟨v, rfl⟩, hend⟩
            refine hK _ _ ?_
            clear hK K
            (try simp only [Act.put, List.getElem_toArray, List.getElem_cons_zero, List.getElem_cons_succ, List.setIfInBounds_toArray, List.set_cons_zero, List.set_cons_succ])
            refine wpAnyIn_done (by kernel_rfl) ?_ _
        case' more90 =>
          refine AllReadyIn.cons (o := ({ dst := some 18, op := Go.Op.load 3 (Go.Operand.tmp 2), type := 3, pos := "skip.go:119", after := #[], guard := none } : Go.Oper)) rfl (fun K hK => ?_) AllReadyIn.nil
          go_simp
          refine hK _ _ ?_
          clear hK K
          (try simp only [Act.put, List.getElem_toArray, List.getElem_cons_zero, List.getElem_cons_succ, List.setIfInBounds_toArray, List.set_cons_zero, List.set_cons_succ])
          refine wpAnyIn_ready (rs := [1]) (by kernel_rfl) (by simp) ?_
          refine AllReadyIn.cons (o := ({ dst := some 15, op := Go.Op.nilCheck (Go.Operand.tmp 14), type := 0, pos := "skip.go:119", after := #[{ on := 0, ground := Go.Ground.data }], guard := none } : Go.Oper)) rfl (fun K hK => ?_) AllReadyIn.nil
          go_simp
          refine hK _ _ ?_
          clear hK K
          (try simp only [Act.put, List.getElem_toArray, List.getElem_cons_zero, List.getElem_cons_succ, List.setIfInBounds_toArray, List.set_cons_zero, List.set_cons_succ])
          refine wpAnyIn_take (i := 2) (oi := ({ dst := some 16, op := Go.Op.fieldAddr 65 (Go.Operand.tmp 15) 0, type := 0, pos := "skip.go:119", after := #[{ on := 1, ground := Go.Ground.data }], guard := none } : Go.Oper)) (v := ?v100) rfl rfl (by kernel_rfl) (by kernel_rfl) (by kernel_rfl) (fun _ _ _ h => h) ⟨Or.inl ⟨by rfl, ?hy100⟩, fun _ => rfl⟩ ?rest100
          case hy100 => (intro w; go_simp; (try with_reducible rfl))
          (try simp only [Act.put, List.getElem_toArray, List.getElem_cons_zero, List.getElem_cons_succ, List.setIfInBounds_toArray, List.set_cons_zero, List.set_cons_succ])
          refine wpAnyIn_ready (rs := [3]) (by kernel_rfl) (by simp) ?_
          refine AllReadyIn.cons (o := ({ dst := some 17, op := Go.Op.load 63 (Go.Operand.tmp 16), type := 63, pos := "skip.go:119", after := #[{ on := 2, ground := Go.Ground.data }], guard := none } : Go.Oper)) rfl (fun K hK => ?_) AllReadyIn.nil
          go_simp
          refine hK _ _ ?_
          clear hK K
          (try simp only [Act.put, List.getElem_toArray, List.getElem_cons_zero, List.getElem_cons_succ, List.setIfInBounds_toArray, List.set_cons_zero, List.set_cons_succ])
          refine wpAnyIn_ready (rs := [5]) (by kernel_rfl) (by simp) ?_
          refine AllReadyIn.cons (o := ({ dst := some 19, op := Go.Op.nilCheck (Go.Operand.tmp 17), type := 0, pos := "skip.go:119", after := #[{ on := 3, ground := Go.Ground.data }], guard := none } : Go.Oper)) rfl (fun K hK => ?_) AllReadyIn.nil
          go_simp
          refine hK _ _ ?_
          clear hK K
          (try simp only [Act.put, List.getElem_toArray, List.getElem_cons_zero, List.getElem_cons_succ, List.setIfInBounds_toArray, List.set_cons_zero, List.set_cons_succ])
          refine wpAnyIn_take (i := 6) (oi := ({ dst := some 20, op := Go.Op.fieldAddr 79 (Go.Operand.tmp 19) 1, type := 0, pos := "skip.go:119", after := #[{ on := 5, ground := Go.Ground.data }], guard := none } : Go.Oper)) (v := ?v101) rfl rfl (by kernel_rfl) (by kernel_rfl) (by kernel_rfl) (fun _ _ _ h => h) ⟨Or.inl ⟨by rfl, ?hy101⟩, fun _ => rfl⟩ ?rest101
          case hy101 => (intro w; go_simp; (try with_reducible rfl))
          (try simp only [Act.put, List.getElem_toArray, List.getElem_cons_zero, List.getElem_cons_succ, List.setIfInBounds_toArray, List.set_cons_zero, List.set_cons_succ])
          refine wpAnyIn_take (i := 7) (oi := ({ dst := some 21, op := Go.Op.indexAddr 73 (Go.Operand.tmp 20) (Go.Operand.tmp 18), type := 0, pos := "skip.go:119", after := #[{ on := 6, ground := Go.Ground.data }, { on := 4, ground := Go.Ground.data }], guard := none } : Go.Oper)) (v := ?v102) rfl rfl (by kernel_rfl) (by kernel_rfl) (by kernel_rfl) (fun _ _ _ h => h) ⟨Or.inl ⟨by rfl, ?hy102⟩, fun _ => rfl⟩ ?rest102
          case hy102 => (intro w; go_simp; (try with_reducible rfl))
          (try simp only [Act.put, List.getElem_toArray, List.getElem_cons_zero, List.getElem_cons_succ, List.setIfInBounds_toArray, List.set_cons_zero, List.set_cons_succ])
          refine wpAnyIn_ready (rs := [8]) (by kernel_rfl) (by simp) ?_
          refine AllReadyIn.cons (o := ({ dst := some 22, op := Go.Op.load 63 (Go.Operand.tmp 21), type := 63, pos := "skip.go:119", after := #[{ on := 7, ground := Go.Ground.data }], guard := none } : Go.Oper)) rfl (fun K hK => ?_) AllReadyIn.nil
          go_simp
          refine hK _ _ ?_
          clear hK K
          (try simp only [Act.put, List.getElem_toArray, List.getElem_cons_zero, List.getElem_cons_succ, List.setIfInBounds_toArray, List.set_cons_zero, List.set_cons_succ])
          refine wpAnyIn_ready (rs := [11]) (by kernel_rfl) (by simp) ?_
          refine AllReadyIn.cons (o := ({ dst := some 25, op := Go.Op.call { callee := Go.Callee.value (Go.Operand.func 46), args := #[Go.Operand.tmp 22, Go.Operand.tmp 23, Go.Operand.tmp 24], argTypes := #[63, 3, 72] }, type := 0, pos := "skip.go:119", after := #[{ on := 8, ground := Go.Ground.data }, { on := 9, ground := Go.Ground.data }, { on := 10, ground := Go.Ground.data }], guard := none } : Go.Oper)) rfl (fun K hK => ?_) AllReadyIn.nil
          go_simp
          refine ⟨trivial, fun h => (by simp [Fence.wide] at h), ?_⟩; have xw : Ext W W.drew := Ext.drew (Ext.rfl_ _); refine (hov _ _ J Jx W.drew (h0W.trans xw) hJ hJx hY (hJ _ _ _ _ _ hJ0 (Kept.of_ext xw) (fun _ h => h) (fun _ h => .inl h))).mono ?_; rintro e w' ⟨⟨v, rfl⟩, hend⟩
          refine hK _ _ ?_
          clear hK K
          (try simp only [Act.put, List.getElem_toArray, List.getElem_cons_zero, List.getElem_cons_succ, List.setIfInBounds_toArray, List.set_cons_zero, List.set_cons_succ])
          refine wpAnyIn_done (by kernel_rfl) ?_ _
      case' more89 =>
        refine AllReadyIn.cons (o := ({ dst := some 18, op := Go.Op.load 3 (Go.Operand.tmp 2), type := 3, pos := "skip.go:119", after := #[], guard := none } : Go.Oper)) rfl (fun K hK => ?_) AllReadyIn.nil
        go_simp
        refine hK _ _ ?_
        clear hK K
        (try simp only [Act.put, List.getElem_toArray, List.getElem_cons_zero, List.getElem_cons_succ, List.setIfInBounds_toArray, List.set_cons_zero, List.set_cons_succ])
        refine wpAnyIn_ready (rs := [0]) (by kernel_rfl) (by simp) ?_
        refine AllReadyIn.cons (o := ({ dst := some 14, op := Go.Op.load 28 (Go.Operand.tmp 1), type := 28, pos := "skip.go:119", after := #[], guard := none } : Go.Oper)) rfl (fun K hK => ?_) AllReadyIn.nil
        go_simp
        refine hK _ _ ?_
        clear hK K
        (try simp only [Act.put, List.getElem_toArray, List.getElem_cons_zero, List.getElem_cons_succ, List.setIfInBounds_toArray, List.set_cons_zero, List.set_cons_succ])
        refine wpAnyIn_ready (rs := [1]) (by kernel_rfl) (by simp) ?_
        refine AllReadyIn.cons (o := ({ dst := some 15, op := Go.Op.nilCheck (Go.Operand.tmp 14), type := 0, pos := "skip.go:119", after := #[{ on := 0, ground := Go.Ground.data }], guard := none } : Go.Oper)) rfl (fun K hK => ?_) AllReadyIn.nil
        go_simp
        refine hK _ _ ?_
        clear hK K
        (try simp only [Act.put, List.getElem_toArray, List.getElem_cons_zero, List.getElem_cons_succ, List.setIfInBounds_toArray, List.set_cons_zero, List.set_cons_succ])
        refine wpAnyIn_take (i := 2) (oi := ({ dst := some 16, op := Go.Op.fieldAddr 65 (Go.Operand.tmp 15) 0, type := 0, pos := "skip.go:119", after := #[{ on := 1, ground := Go.Ground.data }], guard := none } : Go.Oper)) (v := ?v103) rfl rfl (by kernel_rfl) (by kernel_rfl) (by kernel_rfl) (fun _ _ _ h => h) ⟨Or.inl ⟨by rfl, ?hy103⟩, fun _ => rfl⟩ ?rest103
        case hy103 => (intro w; go_simp; (try with_reducible rfl))
        (try simp only [Act.put, List.getElem_toArray, List.getElem_cons_zero, List.getElem_cons_succ, List.setIfInBounds_toArray, List.set_cons_zero, List.set_cons_succ])
        refine wpAnyIn_ready (rs := [3]) (by kernel_rfl) (by simp) ?_
        refine AllReadyIn.cons (o := ({ dst := some 17, op := Go.Op.load 63 (Go.Operand.tmp 16), type := 63, pos := "skip.go:119", after := #[{ on := 2, ground := Go.Ground.data }], guard := none } : Go.Oper)) rfl (fun K hK => ?_) AllReadyIn.nil
        go_simp
        refine hK _ _ ?_
        clear hK K
        (try simp only [Act.put, List.getElem_toArray, List.getElem_cons_zero, List.getElem_cons_succ, List.setIfInBounds_toArray, List.set_cons_zero, List.set_cons_succ])
        refine wpAnyIn_ready (rs := [5]) (by kernel_rfl) (by simp) ?_
        refine AllReadyIn.cons (o := ({ dst := some 19, op := Go.Op.nilCheck (Go.Operand.tmp 17), type := 0, pos := "skip.go:119", after := #[{ on := 3, ground := Go.Ground.data }], guard := none } : Go.Oper)) rfl (fun K hK => ?_) AllReadyIn.nil
        go_simp
        refine hK _ _ ?_
        clear hK K
        (try simp only [Act.put, List.getElem_toArray, List.getElem_cons_zero, List.getElem_cons_succ, List.setIfInBounds_toArray, List.set_cons_zero, List.set_cons_succ])
        refine wpAnyIn_take (i := 6) (oi := ({ dst := some 20, op := Go.Op.fieldAddr 79 (Go.Operand.tmp 19) 1, type := 0, pos := "skip.go:119", after := #[{ on := 5, ground := Go.Ground.data }], guard := none } : Go.Oper)) (v := ?v104) rfl rfl (by kernel_rfl) (by kernel_rfl) (by kernel_rfl) (fun _ _ _ h => h) ⟨Or.inl ⟨by rfl, ?hy104⟩, fun _ => rfl⟩ ?rest104
        case hy104 => (intro w; go_simp; (try with_reducible rfl))
        (try simp only [Act.put, List.getElem_toArray, List.getElem_cons_zero, List.getElem_cons_succ, List.setIfInBounds_toArray, List.set_cons_zero, List.set_cons_succ])
        refine wpAnyIn_take (i := 7) (oi := ({ dst := some 21, op := Go.Op.indexAddr 73 (Go.Operand.tmp 20) (Go.Operand.tmp 18), type := 0, pos := "skip.go:119", after := #[{ on := 6, ground := Go.Ground.data }, { on := 4, ground := Go.Ground.data }], guard := none } : Go.Oper)) (v := ?v105) rfl rfl (by kernel_rfl) (by kernel_rfl) (by kernel_rfl) (fun _ _ _ h => h) ⟨Or.inl ⟨by rfl, ?hy105⟩, fun _ => rfl⟩ ?rest105
        case hy105 => (intro w; go_simp; (try with_reducible rfl))
        (try simp only [Act.put, List.getElem_toArray, List.getElem_cons_zero, List.getElem_cons_succ, List.setIfInBounds_toArray, List.set_cons_zero, List.set_cons_succ])
        refine wpAnyIn_ready (rs := [8]) (by kernel_rfl) (by simp) ?_
        refine AllReadyIn.cons (o := ({ dst := some 22, op := Go.Op.load 63 (Go.Operand.tmp 21), type := 63, pos := "skip.go:119", after := #[{ on := 7, ground := Go.Ground.data }], guard := none } : Go.Oper)) rfl (fun K hK => ?_) AllReadyIn.nil
        go_simp
        refine hK _ _ ?_
        clear hK K
        (try simp only [Act.put, List.getElem_toArray, List.getElem_cons_zero, List.getElem_cons_succ, List.setIfInBounds_toArray, List.set_cons_zero, List.set_cons_succ])
        refine wpAnyIn_ready (rs := [11]) (by kernel_rfl) (by simp) ?_
        refine AllReadyIn.cons (o := ({ dst := some 25, op := Go.Op.call { callee := Go.Callee.value (Go.Operand.func 46), args := #[Go.Operand.tmp 22, Go.Operand.tmp 23, Go.Operand.tmp 24], argTypes := #[63, 3, 72] }, type := 0, pos := "skip.go:119", after := #[{ on := 8, ground := Go.Ground.data }, { on := 9, ground := Go.Ground.data }, { on := 10, ground := Go.Ground.data }], guard := none } : Go.Oper)) rfl (fun K hK => ?_) AllReadyIn.nil
        go_simp
        refine ⟨trivial, fun h => (by simp [Fence.wide] at h), ?_⟩; have xw : Ext W W.drew := Ext.drew (Ext.rfl_ _); refine (hov _ _ J Jx W.drew (h0W.trans xw) hJ hJx hY (hJ _ _ _ _ _ hJ0 (Kept.of_ext xw) (fun _ h => h) (fun _ h => .inl h))).mono ?_; rintro e w' ⟨⟨v, rfl⟩, hend⟩
        refine hK _ _ ?_
        clear hK K
        (try simp only [Act.put, List.getElem_toArray, List.getElem_cons_zero, List.getElem_cons_succ, List.setIfInBounds_toArray, List.set_cons_zero, List.set_cons_succ])
        refine wpAnyIn_done (by kernel_rfl) ?_ _
  all_goals
    gi_wp2
    go_end0
    exact ⟨⟨_, rfl⟩, hend⟩

theorem level1_seq (gl gn n : Nat) (hn : n < 8) (g h : Nat) (L : List Nd) (S : Nat → Prop) (w00 w0 : World) (s : SkL w00 g h L) (h0 : Ext w00 w0) (hS : ∀ k, S k → w00.heap.size ≤ k) (hl : w0.cell? ⟨gl, 0, none⟩ = some (.pointer (some ⟨g, 0, none⟩))) (hnc : w0.cell? ⟨gn, 0, none⟩ = some (.int .i64 n)) :
    SeqT Try.prog 51 #[.pointer (some ⟨gl, 0, none⟩), .pointer (some ⟨gn, 0, none⟩)] OkN S ((L.filter fun nd => decide (n < ht nd.x)).map Nd.x) w0 :=
  (levelH_seq gl gn n hn g h L S w00 w0 s h0 hS hl hnc).n

end Go.Proofs.Ytddaagldelcbeaa
