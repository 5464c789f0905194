/- Contracts of CRC-32C: crc.fall, crc.one, crc.take, crc.Sum, and the reference's step, More, Sum. Conditions: the pieces read as bytes. -/
import Derived.Test.YteooaplimiifiaaGreatCrcM
import Derived.Test.YteooaplimiifiaaGreatWireJ
import Derived.Deep.WholeRow
import Derived.BigQuiet
import Derived.Test.YteooaplimiifiaaGreatKeyC
import Derived.Test.YteooaplimiifiaaGreatReadC
namespace Go.Proofs.YteooaplimiifiaaGreat
set_option linter.unusedSimpArgs false
set_option linter.unusedVariables false
set_option maxRecDepth 100000
open Go.RowKit

theorem u32_of {a b : Int} (h : a = b) : Value.int .u32 a = Value.int .u32 b := by rw [h]
theorem ret_w {a b : Int} (h : a = b) : Ending.returned (.int .u32 a) = Ending.returned (.int .u32 b) := by rw [h]

set_option maxRecDepth 100000 in
set_option maxHeartbeats 1000000 in
theorem cfall_any (r : Nat) (w : World) (hr : r < 4294967296) :
    Calls Tryz.prog 102 #[.int .u32 r] w fun e w' => e = .returned (.int .u32 (fallN r : Nat)) ∧ w = w' := by
  go_enter Tryz.func102, Tryz.ntmps102
  by_cases h : r % 2 = 0
  · have h2 : (((r : Int) % 2) == 0) = true := by simp; omega
    go_wp2
    go_ret
    exact ⟨ret_w (fall_even h), rfl⟩
  · have h2 : (((r : Int) % 2) == 0) = false := by simp; omega
    go_wp2
    go_ret
    exact ⟨ret_w (fall_odd hr h), rfl⟩


theorem Tryz.infoN : (Tryz.prog.info? 142).map (fun i => (i.zero, i.size)) = some (some (.agg (Array.replicate 1024 (.int .u32 0))), 1024) := by kernel_rfl

/-- The table: of each byte alone what eight steps make of it. -/
def CrcTab (c : Array Value) : Prop := c.size = 1024 ∧ c.all (·.oneCell') = true ∧ ∀ b, b < 256 → c[b]? = some (.int .u32 (stepN b : Nat))

/-- The table's variable, filled below k. -/
structure OneI (w : World) (g k : Nat) (wr : World) : Prop where
  row : ∃ c : Array Value, wr.heap[g]? = some (.cells c 142 (0, 0)) ∧ c.size = 1024 ∧ c.all (·.oneCell') = true ∧ ∀ b, b < k → b < 256 → c[b]? = some (.int .u32 (stepN b : Nat))
  ext : Ext w wr
theorem setRow_cell {w : World} {g i : Nat} {c : Array Value} {t : TypeId} {fr : Nat × Nat} (hg : w.heap[g]? = some (.cells c t fr)) (u : Value) : (w.setCell ⟨g, i, none⟩ u).heap[g]? = some (.cells (c.setIfInBounds i u) t fr) := by
  simp [World.setCell, Array.getElem?_modify, hg]
theorem all_set {c : Array Value} {i : Nat} {u : Value} (h : c.all (·.oneCell') = true) (hu : u.oneCell' = true) : (c.setIfInBounds i u).all (·.oneCell') = true := by
  rw [Array.all_eq_true_iff_forall_mem] at *
  intro x hx
  rcases Array.mem_or_eq_of_mem_setIfInBounds hx with h1 | rfl
  · exact h _ h1
  · exact hu
theorem all_rep {n : Nat} : (Array.replicate n (Value.int .u32 0)).all (·.oneCell') = true := by
  rw [Array.all_eq_true_iff_forall_mem]
  intro x hx
  rw [Array.mem_replicate] at hx
  rw [hx.2]
  rfl
theorem Ext.setRow {a w : World} (h : Ext a w) {g : Nat} (hg : a.heap.size ≤ g) (c : Array Value) : Ext a (w.setRow g c) :=
  ⟨(Ext.below h).os, (Ext.below h).tape, (Ext.below h).output, by simpa [World.setRow] using Ext.size h, fun k hk => by
    have := (Ext.below h).block k hk
    rw [← this]
    simp only [World.setRow, Array.getElem?_modify]
    rw [if_neg (by omega)]⟩
theorem OneI.cell {w wr : World} {g k : Nat} (h : OneI w g k wr) (i : Nat) (hi : i < 1024) : (∃ v, wr.cell? ⟨g, i, none⟩ = some v) ∧ wr.frozen? ⟨g, i, none⟩ = false := by
  obtain ⟨c, hc, hs, _, _⟩ := h.row
  refine ⟨⟨c[i]'(by omega), by simp [World.cell?, hc, hs, hi]⟩, by simp [World.frozen?, hc]⟩
theorem OneI.set {w wr : World} {g k : Nat} (h : OneI w g k wr) (hg : w.heap.size ≤ g) (i : Nat) (hi : k ≤ i) (u : Value) (hu : u.oneCell' = true) : OneI w g k (wr.setCell ⟨g, i, none⟩ u) := by
  obtain ⟨c, hc, hs, ha, hb⟩ := h.row
  refine ⟨⟨_, setRow_cell hc u, by rw [Array.size_setIfInBounds]; exact hs, all_set ha hu, fun b hk h2 => ?_⟩, h.ext.setCell hg u⟩
  rw [Array.getElem?_setIfInBounds_ne (by omega)]
  exact hb b hk h2
theorem OneI.next {w wr : World} {g k : Nat} (h : OneI w g k wr) (hg : w.heap.size ≤ g) (hk : k < 256) : OneI w g (k + 1) (wr.setCell ⟨g, k, none⟩ (.int .u32 (stepN k : Nat))) := by
  obtain ⟨c, hc, hs, ha, hb⟩ := h.row
  refine ⟨⟨_, setRow_cell hc _, by rw [Array.size_setIfInBounds]; exact hs, all_set ha rfl, fun b hk h2 => ?_⟩, h.ext.setCell hg _⟩
  by_cases e : b = k
  · subst e
    rw [Array.getElem?_setIfInBounds_self_of_lt (by omega)]
  · rw [Array.getElem?_setIfInBounds_ne (by omega)]
    exact hb b (by omega) h2
theorem OneI.drew {w wr : World} {g k : Nat} (h : OneI w g k wr) : OneI w g k wr.drew := by
  obtain ⟨c, hc, hs, ha, hb⟩ := h.row
  exact ⟨⟨c, hc, hs, ha, hb⟩, h.ext.drew⟩

set_option maxRecDepth 100000 in
set_option maxHeartbeats 2000000 in
theorem one_any (w : World) : Calls Tryz.prog 99 #[] w fun e w' => ∃ c, e = .returned (.agg c) ∧ CrcTab c ∧ Ext w w' := by
  obtain ⟨hzero, hsize⟩ := zero_of_info Tryz.infoN
  have hZ : ∃ Z : Array Value, Z = Array.replicate 1024 (.int .u32 0) := ⟨_, rfl⟩
  obtain ⟨Z, hZ⟩ := hZ
  rw [← hZ] at hzero
  have HZ := Lib.hid hZ
  have HSZ := Lib.hid hsize
  clear hZ hsize
  obtain ⟨g, hg⟩ : ∃ g, g = w.heap.size := ⟨_, rfl⟩
  have HGE : Hid (w.heap.size ≤ g) := Lib.hid (by omega)
  have HG := Lib.hid hg
  have h0 : OneI w g 1 (w.alloc (.cells Z 142)) := by
    refine ⟨⟨Z, by rw [HG.out]; exact heap_alloc_new w _, by rw [HZ.out]; simp, by rw [HZ.out]; exact all_rep, fun b hb _ => ?_⟩, (by with_reducible (repeat (first | exact Ext.rfl_ _ | assumption | refine Ext.drew ?_ | refine Ext.drewN ?_ _ | refine Ext.alloc ?_ _ | refine Ext.trans ?_ (by assumption))))⟩
    obtain rfl : b = 0 := by omega
    rw [HZ.out]
    simp
    decide
  have H0 := Lib.hid h0
  clear h0 HZ
  go_enter Tryz.func99, Tryz.ntmps99
  go_wp2_with fail
  rw [← hg]
  clear hg hzero
  go_loopw [1] (fun i wr => ∃ k : Nat, 1 ≤ k ∧ k ≤ 256 ∧ i = .int .i64 k ∧ Hid (OneI w g k wr)) (fun i _ => 256 - (intOf i).toNat)
  case atStart => exact ⟨1, by omega, by omega, rfl, H0⟩
  case round =>
    obtain ⟨k, hk1, hk, rfl, HI⟩ := hrel
    by_cases hlt : k < 256
    · have hlt' : (k : Int) < 256 := by omega
      have hk32 : k < 4294967296 := by omega
      go_wp2_with fail
      go_loopw [2, 10] (fun s i wq => wq = wr ∧ ∃ j : Nat, j ≤ 8 ∧ i = .int .i64 j ∧ s = .int .u32 (fallK j k : Nat)) (fun _ i _ => 8 - (intOf i).toNat)
      case atStart => exact ⟨(by first | rfl | trivial), 0, by omega, rfl, by rw [fallK]⟩
      case round =>
        obtain ⟨rfl, j, hj, rfl, rfl⟩ := hrel
        by_cases hl8 : j < 8
        · have hl8' : (j : Int) < 8 := by omega
          go_wp2_with fail
          refine (cfall_any _ _ (fallK_lt j hk32)).mono ?_
          rintro e w1 ⟨rfl, rfl⟩
          go_wp2
          go_roundw
          case rel => exact ⟨(by first | rfl | trivial), j + 1, by omega, by go_num, rfl⟩
          case measure => simp [intOf]; omega
        · obtain rfl : j = 8 := by omega
          obtain ⟨⟨v, hc⟩, hf⟩ := HI.out.cell k (by omega)
          have HN := Lib.hid (HI.out.next HGE.out hlt)
          unfold stepN at HN
          go_wp2
          clear hc hf hj
          go_loopw [3] (fun i wq => ∃ j : Nat, 1 ≤ j ∧ j ≤ 4 ∧ i = .int .i64 j ∧ Hid (OneI w g (k + 1) wq)) (fun i _ => 4 - (intOf i).toNat)
          case atStart => exact ⟨1, by omega, by omega, rfl, HN⟩
          case round =>
            obtain ⟨j, hj1, hj, rfl, HJ⟩ := hrel
            by_cases hl4 : j < 4
            · have hl4' : (j : Int) < 4 := by omega
              obtain ⟨⟨v, hc⟩, hf⟩ := HJ.out.cell (j * 256 + k) (by omega)
              have HJ2 : ∀ (q : Nat) (u : Int), 256 ≤ q → Hid (OneI w g (k + 1) ((wr.setCell ⟨g, q + k, none⟩ (.int .u32 u)).drew)) := fun q u hq => Lib.hid (HJ.out.set HGE.out _ (by omega) _ rfl).drew
              rcases (by omega : j = 1 ∨ j = 2 ∨ j = 3) with rfl | rfl | rfl
              · go_wp2
                go_region
                go_wp2
                go_roundw
                case rel => exact ⟨2, by omega, by omega, by go_num, HJ2 256 _ (by omega)⟩
                case measure => simp [intOf]
              · go_wp2
                go_region
                go_wp2
                go_roundw
                case rel => exact ⟨3, by omega, by omega, by go_num, HJ2 512 _ (by omega)⟩
                case measure => simp [intOf]
              · go_wp2
                go_region
                go_wp2
                go_roundw
                case rel => exact ⟨4, by omega, by omega, by go_num, HJ2 768 _ (by omega)⟩
                case measure => simp [intOf]
            · obtain rfl : j = 4 := by omega
              go_wp2
              go_roundw
              case rel => exact ⟨k + 1, by omega, by omega, by go_num, HJ⟩
              case measure => simp [intOf]; omega
    · obtain rfl : k = 256 := by omega
      obtain ⟨c, hc, hs, ha, hb⟩ := HI.out.row
      have hE := HI.out.ext
      clear H0
      have hs2 : Option.map (fun x => x.size) (Tryz.prog.info? 142) = some c.size := by rw [hs]; exact HSZ.out
      go_wp2_with (first | (refine wpList_load_row rfl 142 _ rfl g rfl _ c _ _ hc Tryz.underlying142 rfl hs2 ?_) | (refine wpList_store_row rfl 142 _ _ rfl g c rfl rfl _ c hc hs2 rfl ha ?_))
      have hc2 := setRow_heap wr g c c 142 (0, 0) hc
      have hl := run_loadVar_row (P := Tryz.prog) (wr.setRow g c) g 142 142 c (0, 0) _ hc2 Tryz.underlying142 rfl hs2
      refine bodyPost_ret (v := .agg c) ?_ rfl ⟨c, rfl, ⟨hs, ha, fun b h => hb b h h⟩, hE.setRow HGE.out c⟩
      exact results_cell_row rfl _ _ g _ c _ _ rfl hc2 Tryz.underlying142 rfl hs2

theorem crc_xor {r : Nat} (hr : r < 4294967296) (c : UInt8) : r ^^^ c.toNat < 4294967296 := xor_lt hr (Nat.lt_trans c.toNat_lt (by decide))

set_option maxRecDepth 100000 in
set_option maxHeartbeats 2000000 in
theorem take_any (r : Nat) (A : Option Addr) (n c : Nat) (xs : List Bs) (w : World) (hr : r < 4294967296) (hx : RdBB w A n xs) (hn : n ≤ B40) (hs : ∀ x ∈ xs, x.length ≤ B47) :
    Calls Tryz.prog 83 #[.int .u32 r, .slice A n c] w fun e w' => e = .returned (.int .u32 (crcR r xs.flatten : Nat)) ∧ Ext w w' := by
  obtain ⟨hzero, hsize⟩ := zero_of_info Tryz.infoN
  have hZ : ∃ Z : Array Value, Z = Array.replicate 1024 (.int .u32 0) := ⟨_, rfl⟩
  obtain ⟨Z, hZ⟩ := hZ
  rw [← hZ] at hzero
  have hZs : Z.size = 1024 := by rw [hZ]; simp
  have HX := Lib.hid hx
  have HS := Lib.hid hs
  unfold B40 at hn
  clear hZ hx hs
  go_enter Tryz.func83, Tryz.ntmps83
  go_wp2_with fail
  refine (one_any _).mono ?_
  rintro e w1 ⟨T, rfl, hT, hw1⟩
  have hs2 : Option.map (fun x => x.size) (Tryz.prog.info? 142) = some T.size := by rw [hT.1]; exact hsize
  have ha := hT.2.1
  have hzs : Z.size = T.size := by rw [hT.1]; exact hZs
  have hb := heap_alloc_new w1 (.cells Z 142)
  go_wp2_with (refine wpList_store_row rfl 142 _ _ rfl w1.heap.size T rfl rfl _ Z hb hs2 hzs ha ?_; rw [World.setRow_alloc_new])
  have hcell : ∀ b, b < 256 → (w1.alloc (.cells T 142)).cell? ⟨w1.heap.size, b, none⟩ = some (.int .u32 (stepN b : Nat)) := fun b hb => by
    have := heap_alloc_new w1 (.cells T 142)
    simp only [World.cell?, this]
    exact hT.2.2 b hb
  have HE : Hid (Ext w (w1.alloc (.cells T 142))) := Lib.hid (by with_reducible (repeat (first | exact Ext.rfl_ _ | assumption | refine Ext.drew ?_ | refine Ext.drewN ?_ _ | refine Ext.alloc ?_ _ | refine Ext.trans ?_ (by assumption))))
  obtain ⟨W, hW⟩ : ∃ W, W = w1.alloc (.cells T 142) := ⟨_, rfl⟩
  obtain ⟨g, hg⟩ : ∃ g, g = w1.heap.size := ⟨_, rfl⟩
  rw [← hW, ← hg] at hcell ⊢
  rw [← hW] at HE
  have HC := Lib.hid hcell
  clear hcell hW hg hb hzs ha hs2 hT hw1 hzero hsize hZs
  go_loop [0, 13] (fun s i => ∃ k : Nat, k ≤ n ∧ i = .int .i64 k ∧ s = .int .u32 (crcR r (xs.take k).flatten : Nat)) (fun _ i => n - (intOf i).toNat)
  case atStart => exact ⟨0, Nat.zero_le _, rfl, rfl⟩
  case round =>
    obtain ⟨k, hk, rfl, rfl⟩ := hrel
    by_cases hlt : k < n
    · have hlt' : (k : Int) < (n : Int) := by omega
      obtain ⟨b, o, A', n', c', x, rfl, hcx, hxk, hrx⟩ := HX.out.at_ hlt
      have hcW := HE.out.keeps _ _ _ hcx
      have hrW := hrx.ext HE.out
      have hxl := hrx.1
      have hn' : n' ≤ B47 := by rw [← hxl]; exact HS.out x (List.mem_of_getElem? hxk)
      unfold B47 at hn'
      have HF := Lib.hid (flat_succ hxk)
      obtain ⟨R, hR⟩ : ∃ R, R = crcR r (xs.take k).flatten := ⟨_, rfl⟩
      have hRl : R < 4294967296 := by rw [hR]; exact crcR_lt hr _
      rw [← hR]
      have HR := Lib.hid hR
      have HRW := Lib.hid hrW
      clear hcx hrx hR hrW hxk
      go_wp2_with fail
      go_loop [0, 19] (fun s i => ∃ j : Nat, j ≤ n' ∧ i = .int .i64 j ∧ s = .int .u32 (crcR R (x.take j) : Nat)) (fun _ i => n' - (intOf i).toNat)
      case atStart => exact ⟨0, Nat.zero_le _, rfl, rfl⟩
      case round =>
        obtain ⟨j, hj, rfl, rfl⟩ := hrel
        by_cases hl2 : j < n'
        · have hl2' : (j : Int) < (n' : Int) := by omega
          obtain ⟨b2, o2, rfl, hcb⟩ := HRW.out.2 (by omega)
          have hjx : j < x.length := by omega
          have hc1 := hcb j hjx
          have htk : x.take (j + 1) = x.take j ++ [x[j]] := List.take_succ_eq_append_getElem hjx
          have hq1 : crcR R (x.take (j + 1)) = stepN (crcR R (x.take j) ^^^ x[j].toNat) := by rw [htk, crcR_snoc]
          have hq2 : crcR R (x.take j) < 4294967296 := crcR_lt hRl _
          obtain ⟨q, hq⟩ : ∃ q, q = crcR R (x.take j) := ⟨_, rfl⟩
          obtain ⟨y, hy⟩ : ∃ y, y = x[j].toNat := ⟨_, rfl⟩
          have hy256 : y < 256 := by rw [hy]; exact x[j].toNat_lt
          rw [← hq, ← hy] at hq1
          rw [← hq] at hq2 ⊢
          rw [← hy] at hc1
          have hb1 := bits_xor (a := q) (b := y) hq2 (by omega)
          obtain ⟨p, hp⟩ : ∃ p, p = q ^^^ y := ⟨_, rfl⟩
          have hp32 : p < 4294967296 := by rw [hp]; exact xor_lt hq2 (by omega)
          rw [← hp] at hq1 hb1
          have hc2 := HC.out (p % 256) (by omega)
          have hb2 : bits BinOp.xor IntKind.u32 ((stepN (p % 256) : Nat) : Int) ((p / 256 : Nat) : Int) = ((stepN p : Nat) : Int) := by
            rw [bits_xor (stepN_lt (by omega)) (by omega), step_tab]
          have HQ1 := Lib.hid hq1
          clear hcb htk hq1 hq hy hp
          go_wp2
          go_round
          case rel => exact ⟨j + 1, by omega, by go_num, by rw [HQ1.out, ← hb2]; rfl⟩
          case measure => simp [intOf]; omega
        · obtain rfl : j = n' := by omega
          have HT : Hid (crcR R (x.take j) = crcR r (xs.take (k + 1)).flatten) := Lib.hid (by rw [← hxl, List.take_length, HF.out, crcR_app, HR.out])
          rw [HT.out]
          go_wp2
          go_round
          case rel => exact ⟨k + 1, by omega, by go_num, rfl⟩
          case measure => simp [intOf]; omega
    · obtain rfl : k = n := by omega
      have htk : (xs.take k) = xs := by rw [← HX.out.1, List.take_length]
      rw [htk]
      go_wp2
      go_ret
      exact ⟨rfl, HE.out⟩

set_option maxRecDepth 100000 in
set_option maxHeartbeats 2000000 in
theorem csum_any (A : Option Addr) (n c : Nat) (xs : List Bs) (w : World) (hx : RdBB w A n xs) (hn : n ≤ B40) (hs : ∀ x ∈ xs, x.length ≤ B47) :
    Calls Tryz.prog 56 #[.slice A n c] w fun e w' => e = .returned (.int .u32 (crcB xs.flatten : Nat)) ∧ Ext w w' := by
  go_enter Tryz.func56, Tryz.ntmps56
  go_wp2_with fail
  refine (take_any 4294967295 A n c xs _ (by decide) hx hn hs).mono ?_
  rintro e w1 ⟨rfl, hw1⟩
  have hl := crcR_lt (r := 4294967295) (by decide) xs.flatten
  have hc : crcB xs.flatten = 4294967295 ^^^ crcR 4294967295 xs.flatten := rfl
  obtain ⟨q, hq⟩ : ∃ q, q = crcR 4294967295 xs.flatten := ⟨_, rfl⟩
  rw [← hq] at hl hc ⊢
  clear hq
  go_wp2
  all_goals first
    | (rename_i h; exact absurd h (by decide))
    | (go_ret
       exact ⟨ret_w (bits_xor (a := 4294967295) (by decide) hl), hw1⟩)



end Go.Proofs.YteooaplimiifiaaGreat
