/- Contracts of the small comparers: bytes.Compare, bytes.Equal, cmp.Compare, cmp.Or, ikey.CompareKeys. Conditions: the slices read as bytes. -/
import Derived.Test.YteooaplimiifiaaGreatMath
import Derived.Lib.BytesEntry
namespace Go.Proofs.YteooaplimiifiaaGreat
set_option linter.unusedSimpArgs false
set_option linter.unusedVariables false
set_option maxRecDepth 100000
open Go.RowKit

theorem ret_int {k : IntKind} {a b : Int} (h : a = b) : Ending.returned (.int k a) = .returned (.int k b) := by rw [h]
theorem ret_bool {a b : Bool} (h : a = b) : Ending.returned (.bool a) = .returned (.bool b) := by rw [h]
theorem beqd {α : Type} [DecidableEq α] (x y : α) : (x == y) = decide (x = y) := by by_cases h : x = y <;> simp [h]

theorem Rd.run_bytesOf {P : Program} {w : World} {A : Option Addr} {n : Nat} {x : Bs} (h : Rd w A n x) (c : Nat) :
    (Extern.Bytes.bytesOf (.slice A n c)).run P w = .ok ⟨x.toArray⟩ w := by
  rcases Nat.eq_zero_or_pos n with hn | hn
  · subst hn
    obtain rfl := h.nil_eq
    cases A with
    | none => simp [Extern.Bytes.bytesOf]; rfl
    | some a => simp [Extern.Bytes.bytesOf, Extern.Bytes.loadBytes]; rfl
  · obtain ⟨b, o, rfl, hc⟩ := h.2 hn
    have hl := Lib.run_loadBytesX (P := P) w (x.map fun b => (b.toNat : Int)) ⟨b, o, none⟩ .empty (fun j u hu => by
      have hj : j < x.length := by have := (List.getElem?_eq_some_iff.1 hu).1; simpa using this
      have e : (⟨b, o, none⟩ : Addr).add j = ⟨b, o + j, none⟩ := by unfold Addr.add; split <;> simp_all
      rw [e, hc j hj]
      simp [List.getElem?_eq_getElem hj] at hu
      rw [hu])
    rw [List.length_map, h.1] at hl
    simp only [Extern.Bytes.bytesOf, hl]
    congr 1
    apply ByteArray.ext
    simp [Lib.bytesOf, List.map_map, Function.comp_def]

theorem run_compareBytes {P : Program} {w : World} {A B : Option Addr} {n m : Nat} {x y : Bs} (hx : Rd w A n x) (hy : Rd w B m y) (c d : Nat) :
    (Extern.BytealgCompare.compare #[.slice A n c, .slice B m d]).run P w = .ok (.int .i64 (cmpK x y)) w := by
  change Sem.run P (do pure (goInt (Extern.BytealgCompare.cmp (← Extern.Bytes.bytesOf (.slice A n c)) (← Extern.Bytes.bytesOf (.slice B m d))))) w = _
  simp only [Sem.run_bind, Sem.run_pure, Result.andThen, hx.run_bytesOf, hy.run_bytesOf]
  rw [Lib.cmp_eq]
  rfl

set_option maxHeartbeats 400000 in
theorem bcompare_any (A B : Option Addr) (n c m d : Nat) (x y : Bs) (w : World) (hx : Rd w A n x) (hy : Rd w B m y) :
    Calls Tryz.prog 42 #[.slice A n c, .slice B m d] w fun e w' => e = .returned (.int .i64 (cmpK x y)) ∧ w = w' := by
  go_enter Tryz.func42, Tryz.ntmps42
  go_wp2
  rw [run_callFunc_extern Tryz.func70 (by kernel_rfl) (by kernel_rfl) (by kernel_rfl) (e := Extern.BytealgCompare.compare) (by kernel_rfl), run_compareBytes hx hy]
  simp only [Result.andThen]
  rw [Oper.upon_value]
  go_wp2
  go_ret
  exact ⟨rfl, rfl⟩



set_option maxHeartbeats 400000 in
theorem cmpInt_any (a b : Int) (w : World) :
    Calls Tryz.prog 49 #[.int .i64 a, .int .i64 b] w fun e w' => e = .returned (.int .i64 (cmpI a b)) ∧ w = w' := by
  go_enter Tryz.func49, Tryz.ntmps49
  go_wp2
  all_goals
    go_ret
    exact ⟨ret_int (by unfold cmpI; split <;> (try split) <;> omega), rfl⟩


end Go.Proofs.YteooaplimiifiaaGreat
