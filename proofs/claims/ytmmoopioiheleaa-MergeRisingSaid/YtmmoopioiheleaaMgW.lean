/- The law's put and gone; its known: plain rows. Conditions: none. -/
import Derived.Test.YtmmoopioiheleaaMgT
import Derived.Test.YtmmoopioiheleaaMgP
import Derived.Test.YtmmoopioiheleaaMgJ
import Derived.Test.YtmmoopioiheleaaRdRow
namespace Go.Proofs.Ytmmoopioiheleaa
set_option linter.unusedSimpArgs false
set_option linter.unusedVariables false
open Go.RowKit

/-- An entry of a key of one byte. -/
def e1 (k : UInt8) (s kd : Int) : Ent := ⟨[k], s, kd, []⟩
theorem rdKey {W : World} {g : Nat} {k : UInt8} {t : TypeId} (h : W.heap[g]? = some (.cells #[.int .u8 (k.toNat : Nat)] t (0, 0))) : Rd W (some ⟨g, 0, none⟩) 1 [k] :=
  ⟨rfl, fun _ => ⟨_, 0, rfl, fun j hj => by
    obtain rfl : j = 0 := by simp at hj; exact hj
    unfold World.cell?
    simp only [h]
    rfl⟩⟩
set_option maxRecDepth 100000 in
set_option maxHeartbeats 1000000 in
theorem lput0_any (k : UInt8) (s : Int) (w : World) :
    Calls Try.prog 14 #[.int .u8 (k.toNat : Nat), .int .i64 s] w fun e w' => e = .returned (.agg #[.slice (some ⟨w.heap.size + 1, 0, none⟩) 1 1, .int .i64 s, .int .i64 1, .slice none 0 0]) ∧ RdE w' (.agg #[.slice (some ⟨w.heap.size + 1, 0, none⟩) 1 1, .int .i64 s, .int .i64 1, .slice none 0 0]) (e1 k s 1) ∧ Ext w w' := by
  go_enter Try.func14, Try.ntmps14
  go_wp2
  obtain ⟨h1, h2⟩ := two_new w (.cells #[.slice (some ⟨w.heap.size + 1, 0, none⟩) 1 1, .int .i64 s, .int .i64 1, .slice none 0 0] 37) (.cells #[.int .u8 (k.toNat : Nat)] 5)
  obtain ⟨r0, r1, r2, r3, _⟩ := box4 h1 (Ext.rfl_ _)
  refine bodyPost_ret (v := .agg #[.slice (some ⟨w.heap.size + 1, 0, none⟩) 1 1, .int .i64 s, .int .i64 1, .slice none 0 0]) (by simp [results, Try.f14, go_sem, r0, r1, r2, r3]) rfl ?_
  exact ⟨rfl, ⟨_, 1, 1, none, 0, 0, rfl, rdKey h2, Rd.nil _ _, Nat.le_refl _, by decide, Nat.le_refl _, by decide⟩, (by with_reducible (repeat (first | exact Ext.rfl_ _ | assumption | refine Ext.drew ?_ | refine Ext.drewN ?_ _ | refine Ext.alloc ?_ _ | refine Ext.trans ?_ (by assumption))))⟩
set_option maxRecDepth 100000 in
set_option maxHeartbeats 1000000 in
theorem lgone0_any (k : UInt8) (s : Int) (w : World) :
    Calls Try.prog 13 #[.int .u8 (k.toNat : Nat), .int .i64 s] w fun e w' => e = .returned (.agg #[.slice (some ⟨w.heap.size + 1, 0, none⟩) 1 1, .int .i64 s, .int .i64 2, .slice none 0 0]) ∧ RdE w' (.agg #[.slice (some ⟨w.heap.size + 1, 0, none⟩) 1 1, .int .i64 s, .int .i64 2, .slice none 0 0]) (e1 k s 2) ∧ Ext w w' := by
  go_enter Try.func13, Try.ntmps13
  go_wp2
  obtain ⟨h1, h2⟩ := two_new w (.cells #[.slice (some ⟨w.heap.size + 1, 0, none⟩) 1 1, .int .i64 s, .int .i64 2, .slice none 0 0] 37) (.cells #[.int .u8 (k.toNat : Nat)] 5)
  obtain ⟨r0, r1, r2, r3, _⟩ := box4 h1 (Ext.rfl_ _)
  refine bodyPost_ret (v := .agg #[.slice (some ⟨w.heap.size + 1, 0, none⟩) 1 1, .int .i64 s, .int .i64 2, .slice none 0 0]) (by simp [results, Try.f13, go_sem, r0, r1, r2, r3]) rfl ?_
  exact ⟨rfl, ⟨_, 1, 1, none, 0, 0, rfl, rdKey h2, Rd.nil _ _, Nat.le_refl _, by decide, Nat.le_refl _, by decide⟩, (by with_reducible (repeat (first | exact Ext.rfl_ _ | assumption | refine Ext.drew ?_ | refine Ext.drewN ?_ _ | refine Ext.alloc ?_ _ | refine Ext.trans ?_ (by assumption))))⟩

theorem lput_any (k : UInt8) (z s : Int) (w : World) (hz : ((k.toNat : Nat) : Int) = z) :
    Calls Try.prog 14 #[.int .u8 z, .int .i64 s] w fun e w' => ∃ b, e = .returned (.agg #[.slice (some ⟨b, 0, none⟩) 1 1, .int .i64 s, .int .i64 1, .slice none 0 0]) ∧ RdE w' (.agg #[.slice (some ⟨b, 0, none⟩) 1 1, .int .i64 s, .int .i64 1, .slice none 0 0]) (e1 k s 1) ∧ Ext w w' := by
  subst hz
  refine (lput0_any k s w).mono ?_
  rintro e w' ⟨h1, h2, h3⟩
  exact ⟨_, h1, h2, h3⟩
theorem lgone_any (k : UInt8) (z s : Int) (w : World) (hz : ((k.toNat : Nat) : Int) = z) :
    Calls Try.prog 13 #[.int .u8 z, .int .i64 s] w fun e w' => ∃ b, e = .returned (.agg #[.slice (some ⟨b, 0, none⟩) 1 1, .int .i64 s, .int .i64 2, .slice none 0 0]) ∧ RdE w' (.agg #[.slice (some ⟨b, 0, none⟩) 1 1, .int .i64 s, .int .i64 2, .slice none 0 0]) (e1 k s 2) ∧ Ext w w' := by
  subst hz
  refine (lgone0_any k s w).mono ?_
  rintro e w' ⟨h1, h2, h3⟩
  exact ⟨_, h1, h2, h3⟩
/-- A header of a key in block b. -/
def hK (b : Nat) : Hdr := ⟨some ⟨b, 0, none⟩, 1, 1, none, 0, 0⟩
theorem kJoin : joinL [[e1 97 5 1, e1 98 2 1], [e1 97 6 2, e1 97 1 1, e1 99 3 1]] = [e1 97 6 2, e1 97 5 1, e1 97 1 1, e1 98 2 1, e1 99 3 1] := by decide
def kAll : List Ent := [e1 97 6 2, e1 97 5 1, e1 97 1 1, e1 98 2 1, e1 99 3 1]
theorem kOne : (kp 5 false kAll).out = [e1 97 6 2, e1 97 5 1, e1 98 2 1, e1 99 3 1] := by decide
theorem kTwo : (kp 9 true kAll).out = [e1 98 2 1, e1 99 3 1] := by decide
theorem kSeen : (sn 5 kAll).1 = [([97], []), ([98], []), ([99], [])] := by decide

end Go.Proofs.Ytmmoopioiheleaa
