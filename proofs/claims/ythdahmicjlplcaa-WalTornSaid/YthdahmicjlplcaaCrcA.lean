/- Contracts of CRC-32C: crc.fall, crc.one, crc.take, crc.Sum, and the reference's step, More, Sum. Conditions: the pieces read as bytes. -/
/- Contracts of the small functions of frames: may, word, unword, Size; the reference's may, word, length. Conditions: the slices read as bytes. -/
/- Contracts of frame.first and of the function within it. Conditions: the slice reads as bytes. -/
import Derived.Test.YthdahmicjlplcaaCrcM
import Derived.Test.YthdahmicjlplcaaWireJ
import Derived.Deep.WholeRow
import Derived.BigQuiet
import Derived.Test.YthdahmicjlplcaaKeyC
import Derived.Test.YthdahmicjlplcaaReadC
namespace Go.Proofs.Ythdahmicjlplcaa
set_option linter.unusedSimpArgs false
set_option linter.unusedVariables false
open Go.RowKit

theorem u32_of {a b : Int} (h : a = b) : Value.int .u32 a = Value.int .u32 b := by rw [h]
theorem ret_w {a b : Int} (h : a = b) : Ending.returned (.int .u32 a) = Ending.returned (.int .u32 b) := by rw [h]

set_option maxRecDepth 100000 in
set_option maxHeartbeats 1000000 in
theorem cfall_any (r : Nat) (w : World) (hr : r < 4294967296) :
    Calls Try.prog 99 #[.int .u32 r] w fun e w' => e = .returned (.int .u32 (fallN r : Nat)) ∧ w = w' := by
  go_enter Try.func99, Try.ntmps99
  by_cases h : r % 2 = 0
  · have h2 : (((r : Int) % 2) == 0) = true := by simp; omega
    go_wp2
    go_ret
    exact ⟨ret_w (fall_even h), rfl⟩
  · have h2 : (((r : Int) % 2) == 0) = false := by simp; omega
    go_wp2
    go_ret
    exact ⟨ret_w (fall_odd hr h), rfl⟩

set_option maxRecDepth 100000 in
set_option maxHeartbeats 1000000 in
theorem rstep_any (r : Nat) (w : World) (hr : r < 4294967296) :
    Calls Try.prog 84 #[.int .u32 r] w fun e w' => e = .returned (.int .u32 (stepN r : Nat)) ∧ w = w' := by
  go_enter Try.func84, Try.ntmps84
  go_wp2
  go_loop [0, 3] (fun s i => ∃ k : Nat, k ≤ 8 ∧ i = .int .i64 k ∧ s = .int .u32 (fallK k r : Nat)) (fun _ i => 8 - (intOf i).toNat)
  case atStart => exact ⟨0, by omega, rfl, rfl⟩
  case round =>
    obtain ⟨k, hk, rfl, rfl⟩ := hrel
    by_cases hlt : k < 8
    · have hlt' : (k : Int) < 8 := by omega
      have hq := fallK_lt k hr
      obtain ⟨q, hqq⟩ : ∃ q, q = fallK k r := ⟨_, rfl⟩
      have hnext : fallK (k + 1) r = fallN q := by rw [fallK, hqq]
      rw [← hqq] at hq ⊢
      have HN := Lib.hid hnext
      clear hnext hqq
      by_cases h : q % 2 = 0
      · have h2 : (((q : Int) % 2) == 1) = false := by simp; omega
        go_wp2
        go_round
        case rel => exact ⟨k + 1, by omega, by go_num, by rw [HN.out, ← fall_even h]⟩
        case measure => simp [intOf]; omega
      · have h2 : (((q : Int) % 2) == 1) = true := by simp; omega
        go_wp2
        go_round
        case rel => exact ⟨k + 1, by omega, by go_num, by rw [HN.out, ← fall_odd hq h]⟩
        case measure => simp [intOf]; omega
    · obtain rfl : k = 8 := by omega
      go_wp2
      go_ret
      exact ⟨rfl, rfl⟩

theorem Try.infoN : (Try.prog.info? 132).map (fun i => (i.zero, i.size)) = some (some (.agg (Array.replicate 1024 (.int .u32 0))), 1024) := by kernel_rfl

/-- The table: of each byte alone what eight steps make of it. -/
def Tab (c : Array Value) : Prop := c.size = 1024 ∧ c.all (·.oneCell') = true ∧ ∀ b, b < 256 → c[b]? = some (.int .u32 (stepN b : Nat))

/-- The table's variable, filled below k. -/
structure OneI (w : World) (g k : Nat) (wr : World) : Prop where
  row : ∃ c : Array Value, wr.heap[g]? = some (.cells c 132 (0, 0)) ∧ c.size = 1024 ∧ c.all (·.oneCell') = true ∧ ∀ b, b < k → b < 256 → c[b]? = some (.int .u32 (stepN b : Nat))
  ext : Ext w wr
theorem setRow_cell {w : World} {g i : Nat} {c : Array Value} {t : TypeId} {fr : Nat × Nat} (hg : w.heap[g]? = some (.cells c t fr)) (u : Value) : (w.setCell ⟨g, i, none⟩ u).heap[g]? = some (.cells (c.setIfInBounds i u) t fr) := by
  simp [World.setCell, Array.getElem?_modify, hg]
theorem all_set {c : Array Value} {i : Nat} {u : Value} (h : c.all (·.oneCell') = true) (hu : u.oneCell' = true) : (c.setIfInBounds i u).all (·.oneCell') = true := by
  rw [Array.all_eq_true_iff_forall_mem] at *
  intro x hx
  rcases Array.mem_or_eq_of_mem_setIfInBounds hx with h1 | rfl
  · exact h _ h1
  · exact hu
theorem all_rep {n : Nat} : (Array.replicate n (Value.int .u32 0)).all (·.oneCell') = true := by
  rw [Array.all_eq_true_iff_forall_mem]
  intro x hx
  rw [Array.mem_replicate] at hx
  rw [hx.2]
  rfl
theorem Ext.setRow {a w : World} (h : Ext a w) {g : Nat} (hg : a.heap.size ≤ g) (c : Array Value) : Ext a (w.setRow g c) :=
  ⟨(Ext.below h).os, (Ext.below h).tape, (Ext.below h).output, by simpa [World.setRow] using Ext.size h, fun k hk => by
    have := (Ext.below h).block k hk
    rw [← this]
    simp only [World.setRow, Array.getElem?_modify]
    rw [if_neg (by omega)]⟩
theorem OneI.cell {w wr : World} {g k : Nat} (h : OneI w g k wr) (i : Nat) (hi : i < 1024) : (∃ v, wr.cell? ⟨g, i, none⟩ = some v) ∧ wr.frozen? ⟨g, i, none⟩ = false := by
  obtain ⟨c, hc, hs, _, _⟩ := h.row
  refine ⟨⟨c[i]'(by omega), by simp [World.cell?, hc, hs, hi]⟩, by simp [World.frozen?, hc]⟩
theorem OneI.set {w wr : World} {g k : Nat} (h : OneI w g k wr) (hg : w.heap.size ≤ g) (i : Nat) (hi : k ≤ i) (u : Value) (hu : u.oneCell' = true) : OneI w g k (wr.setCell ⟨g, i, none⟩ u) := by
  obtain ⟨c, hc, hs, ha, hb⟩ := h.row
  refine ⟨⟨_, setRow_cell hc u, by rw [Array.size_setIfInBounds]; exact hs, all_set ha hu, fun b hk h2 => ?_⟩, h.ext.setCell hg u⟩
  rw [Array.getElem?_setIfInBounds_ne (by omega)]
  exact hb b hk h2
theorem OneI.next {w wr : World} {g k : Nat} (h : OneI w g k wr) (hg : w.heap.size ≤ g) (hk : k < 256) : OneI w g (k + 1) (wr.setCell ⟨g, k, none⟩ (.int .u32 (stepN k : Nat))) := by
  obtain ⟨c, hc, hs, ha, hb⟩ := h.row
  refine ⟨⟨_, setRow_cell hc _, by rw [Array.size_setIfInBounds]; exact hs, all_set ha rfl, fun b hk h2 => ?_⟩, h.ext.setCell hg _⟩
  by_cases e : b = k
  · subst e
    rw [Array.getElem?_setIfInBounds_self_of_lt (by omega)]
  · rw [Array.getElem?_setIfInBounds_ne (by omega)]
    exact hb b (by omega) h2
theorem OneI.drew {w wr : World} {g k : Nat} (h : OneI w g k wr) : OneI w g k wr.drew := by
  obtain ⟨c, hc, hs, ha, hb⟩ := h.row
  exact ⟨⟨c, hc, hs, ha, hb⟩, h.ext.drew⟩

set_option maxRecDepth 100000 in
set_option maxHeartbeats 2000000 in
theorem one_any (w : World) : Calls Try.prog 96 #[] w fun e w' => ∃ c, e = .returned (.agg c) ∧ Tab c ∧ Ext w w' := by
  obtain ⟨hzero, hsize⟩ := zero_of_info Try.infoN
  have hZ : ∃ Z : Array Value, Z = Array.replicate 1024 (.int .u32 0) := ⟨_, rfl⟩
  obtain ⟨Z, hZ⟩ := hZ
  rw [← hZ] at hzero
  have HZ := Lib.hid hZ
  have HSZ := Lib.hid hsize
  clear hZ hsize
  obtain ⟨g, hg⟩ : ∃ g, g = w.heap.size := ⟨_, rfl⟩
  have HGE : Hid (w.heap.size ≤ g) := Lib.hid (by omega)
  have HG := Lib.hid hg
  have h0 : OneI w g 1 (w.alloc (.cells Z 132)) := by
    refine ⟨⟨Z, by rw [HG.out]; exact heap_alloc_new w _, by rw [HZ.out]; simp, by rw [HZ.out]; exact all_rep, fun b hb _ => ?_⟩, (by with_reducible (repeat (first | exact Ext.rfl_ _ | assumption | refine Ext.drew ?_ | refine Ext.drewN ?_ _ | refine Ext.alloc ?_ _ | refine Ext.trans ?_ (by assumption))))⟩
    obtain rfl : b = 0 := by omega
    rw [HZ.out]
    simp
    decide
  have H0 := Lib.hid h0
  clear h0 HZ
  go_enter Try.func96, Try.ntmps96
  go_wp2_with fail
  rw [← hg]
  clear hg hzero
  go_loopw [1] (fun i wr => ∃ k : Nat, 1 ≤ k ∧ k ≤ 256 ∧ i = .int .i64 k ∧ Hid (OneI w g k wr)) (fun i _ => 256 - (intOf i).toNat)
  case atStart => exact ⟨1, by omega, by omega, rfl, H0⟩
  case round =>
    obtain ⟨k, hk1, hk, rfl, HI⟩ := hrel
    by_cases hlt : k < 256
    · have hlt' : (k : Int) < 256 := by omega
      have hk32 : k < 4294967296 := by omega
      go_wp2_with fail
      go_loopw [2, 10] (fun s i wq => wq = wr ∧ ∃ j : Nat, j ≤ 8 ∧ i = .int .i64 j ∧ s = .int .u32 (fallK j k : Nat)) (fun _ i _ => 8 - (intOf i).toNat)
      case atStart => exact ⟨(by first | rfl | trivial), 0, by omega, rfl, by rw [fallK]⟩
      case round =>
        obtain ⟨rfl, j, hj, rfl, rfl⟩ := hrel
        by_cases hl8 : j < 8
        · have hl8' : (j : Int) < 8 := by omega
          go_wp2_with fail
          refine (cfall_any _ _ (fallK_lt j hk32)).mono ?_
          rintro e w1 ⟨rfl, rfl⟩
          go_wp2
          go_roundw
          case rel => exact ⟨(by first | rfl | trivial), j + 1, by omega, by go_num, rfl⟩
          case measure => simp [intOf]; omega
        · obtain rfl : j = 8 := by omega
          obtain ⟨⟨v, hc⟩, hf⟩ := HI.out.cell k (by omega)
          have HN := Lib.hid (HI.out.next HGE.out hlt)
          unfold stepN at HN
          go_wp2
          clear hc hf hj
          go_loopw [3] (fun i wq => ∃ j : Nat, 1 ≤ j ∧ j ≤ 4 ∧ i = .int .i64 j ∧ Hid (OneI w g (k + 1) wq)) (fun i _ => 4 - (intOf i).toNat)
          case atStart => exact ⟨1, by omega, by omega, rfl, HN⟩
          case round =>
            obtain ⟨j, hj1, hj, rfl, HJ⟩ := hrel
            by_cases hl4 : j < 4
            · have hl4' : (j : Int) < 4 := by omega
              obtain ⟨⟨v, hc⟩, hf⟩ := HJ.out.cell (j * 256 + k) (by omega)
              have HJ2 : ∀ (q : Nat) (u : Int), 256 ≤ q → Hid (OneI w g (k + 1) ((wr.setCell ⟨g, q + k, none⟩ (.int .u32 u)).drew)) := fun q u hq => Lib.hid (HJ.out.set HGE.out _ (by omega) _ rfl).drew
              rcases (by omega : j = 1 ∨ j = 2 ∨ j = 3) with rfl | rfl | rfl
              · go_wp2
                go_region
                go_wp2
                go_roundw
                case rel => exact ⟨2, by omega, by omega, by go_num, HJ2 256 _ (by omega)⟩
                case measure => simp [intOf]
              · go_wp2
                go_region
                go_wp2
                go_roundw
                case rel => exact ⟨3, by omega, by omega, by go_num, HJ2 512 _ (by omega)⟩
                case measure => simp [intOf]
              · go_wp2
                go_region
                go_wp2
                go_roundw
                case rel => exact ⟨4, by omega, by omega, by go_num, HJ2 768 _ (by omega)⟩
                case measure => simp [intOf]
            · obtain rfl : j = 4 := by omega
              go_wp2
              go_roundw
              case rel => exact ⟨k + 1, by omega, by omega, by go_num, HJ⟩
              case measure => simp [intOf]; omega
    · obtain rfl : k = 256 := by omega
      obtain ⟨c, hc, hs, ha, hb⟩ := HI.out.row
      have hE := HI.out.ext
      clear H0
      have hs2 : Option.map (fun x => x.size) (Try.prog.info? 132) = some c.size := by rw [hs]; exact HSZ.out
      go_wp2_with (first | (refine wpList_load_row rfl 132 _ rfl g rfl _ c _ _ hc Try.underlying132 rfl hs2 ?_) | (refine wpList_store_row rfl 132 _ _ rfl g c rfl rfl _ c hc hs2 rfl ha ?_))
      have hc2 := setRow_heap wr g c c 132 (0, 0) hc
      have hl := run_loadVar_row (P := Try.prog) (wr.setRow g c) g 132 132 c (0, 0) _ hc2 Try.underlying132 rfl hs2
      refine bodyPost_ret (v := .agg c) ?_ rfl ⟨c, rfl, ⟨hs, ha, fun b h => hb b h h⟩, hE.setRow HGE.out c⟩
      exact results_cell_row rfl _ _ g _ c _ _ rfl hc2 Try.underlying132 rfl hs2

theorem crc_xor {r : Nat} (hr : r < 4294967296) (c : UInt8) : r ^^^ c.toNat < 4294967296 := xor_lt hr (Nat.lt_trans c.toNat_lt (by decide))

set_option maxRecDepth 100000 in
set_option maxHeartbeats 2000000 in
theorem take_any (r : Nat) (A : Option Addr) (n c : Nat) (xs : List Bs) (w : World) (hr : r < 4294967296) (hx : RdBB w A n xs) (hn : n ≤ B40) (hs : ∀ x ∈ xs, x.length ≤ B47) :
    Calls Try.prog 83 #[.int .u32 r, .slice A n c] w fun e w' => e = .returned (.int .u32 (crcR r xs.flatten : Nat)) ∧ Ext w w' := by
  obtain ⟨hzero, hsize⟩ := zero_of_info Try.infoN
  have hZ : ∃ Z : Array Value, Z = Array.replicate 1024 (.int .u32 0) := ⟨_, rfl⟩
  obtain ⟨Z, hZ⟩ := hZ
  rw [← hZ] at hzero
  have hZs : Z.size = 1024 := by rw [hZ]; simp
  have HX := Lib.hid hx
  have HS := Lib.hid hs
  unfold B40 at hn
  clear hZ hx hs
  go_enter Try.func83, Try.ntmps83
  go_wp2_with fail
  refine (one_any _).mono ?_
  rintro e w1 ⟨T, rfl, hT, hw1⟩
  have hs2 : Option.map (fun x => x.size) (Try.prog.info? 132) = some T.size := by rw [hT.1]; exact hsize
  have ha := hT.2.1
  have hzs : Z.size = T.size := by rw [hT.1]; exact hZs
  have hb := heap_alloc_new w1 (.cells Z 132)
  go_wp2_with (refine wpList_store_row rfl 132 _ _ rfl w1.heap.size T rfl rfl _ Z hb hs2 hzs ha ?_; rw [World.setRow_alloc_new])
  have hcell : ∀ b, b < 256 → (w1.alloc (.cells T 132)).cell? ⟨w1.heap.size, b, none⟩ = some (.int .u32 (stepN b : Nat)) := fun b hb => by
    have := heap_alloc_new w1 (.cells T 132)
    simp only [World.cell?, this]
    exact hT.2.2 b hb
  have HE : Hid (Ext w (w1.alloc (.cells T 132))) := Lib.hid (by with_reducible (repeat (first | exact Ext.rfl_ _ | assumption | refine Ext.drew ?_ | refine Ext.drewN ?_ _ | refine Ext.alloc ?_ _ | refine Ext.trans ?_ (by assumption))))
  obtain ⟨W, hW⟩ : ∃ W, W = w1.alloc (.cells T 132) := ⟨_, rfl⟩
  obtain ⟨g, hg⟩ : ∃ g, g = w1.heap.size := ⟨_, rfl⟩
  rw [← hW, ← hg] at hcell ⊢
  rw [← hW] at HE
  have HC := Lib.hid hcell
  clear hcell hW hg hb hzs ha hs2 hT hw1 hzero hsize hZs
  go_loop [0, 13] (fun s i => ∃ k : Nat, k ≤ n ∧ i = .int .i64 k ∧ s = .int .u32 (crcR r (xs.take k).flatten : Nat)) (fun _ i => n - (intOf i).toNat)
  case atStart => exact ⟨0, Nat.zero_le _, rfl, rfl⟩
  case round =>
    obtain ⟨k, hk, rfl, rfl⟩ := hrel
    by_cases hlt : k < n
    · have hlt' : (k : Int) < (n : Int) := by omega
      obtain ⟨b, o, A', n', c', x, rfl, hcx, hxk, hrx⟩ := HX.out.at_ hlt
      have hcW := HE.out.keeps _ _ _ hcx
      have hrW := hrx.ext HE.out
      have hxl := hrx.1
      have hn' : n' ≤ B47 := by rw [← hxl]; exact HS.out x (List.mem_of_getElem? hxk)
      unfold B47 at hn'
      have HF := Lib.hid (flat_succ hxk)
      obtain ⟨R, hR⟩ : ∃ R, R = crcR r (xs.take k).flatten := ⟨_, rfl⟩
      have hRl : R < 4294967296 := by rw [hR]; exact crcR_lt hr _
      rw [← hR]
      have HR := Lib.hid hR
      have HRW := Lib.hid hrW
      clear hcx hrx hR hrW hxk
      go_wp2_with fail
      go_loop [0, 19] (fun s i => ∃ j : Nat, j ≤ n' ∧ i = .int .i64 j ∧ s = .int .u32 (crcR R (x.take j) : Nat)) (fun _ i => n' - (intOf i).toNat)
      case atStart => exact ⟨0, Nat.zero_le _, rfl, rfl⟩
      case round =>
        obtain ⟨j, hj, rfl, rfl⟩ := hrel
        by_cases hl2 : j < n'
        · have hl2' : (j : Int) < (n' : Int) := by omega
          obtain ⟨b2, o2, rfl, hcb⟩ := HRW.out.2 (by omega)
          have hjx : j < x.length := by omega
          have hc1 := hcb j hjx
          have htk : x.take (j + 1) = x.take j ++ [x[j]] := List.take_succ_eq_append_getElem hjx
          have hq1 : crcR R (x.take (j + 1)) = stepN (crcR R (x.take j) ^^^ x[j].toNat) := by rw [htk, crcR_snoc]
          have hq2 : crcR R (x.take j) < 4294967296 := crcR_lt hRl _
          obtain ⟨q, hq⟩ : ∃ q, q = crcR R (x.take j) := ⟨_, rfl⟩
          obtain ⟨y, hy⟩ : ∃ y, y = x[j].toNat := ⟨_, rfl⟩
          have hy256 : y < 256 := by rw [hy]; exact x[j].toNat_lt
          rw [← hq, ← hy] at hq1
          rw [← hq] at hq2 ⊢
          rw [← hy] at hc1
          have hb1 := bits_xor (a := q) (b := y) hq2 (by omega)
          obtain ⟨p, hp⟩ : ∃ p, p = q ^^^ y := ⟨_, rfl⟩
          have hp32 : p < 4294967296 := by rw [hp]; exact xor_lt hq2 (by omega)
          rw [← hp] at hq1 hb1
          have hc2 := HC.out (p % 256) (by omega)
          have hb2 : bits BinOp.xor IntKind.u32 ((stepN (p % 256) : Nat) : Int) ((p / 256 : Nat) : Int) = ((stepN p : Nat) : Int) := by
            rw [bits_xor (stepN_lt (by omega)) (by omega), step_tab]
          have HQ1 := Lib.hid hq1
          clear hcb htk hq1 hq hy hp
          go_wp2
          go_round
          case rel => exact ⟨j + 1, by omega, by go_num, by rw [HQ1.out, ← hb2]; rfl⟩
          case measure => simp [intOf]; omega
        · obtain rfl : j = n' := by omega
          have HT : Hid (crcR R (x.take j) = crcR r (xs.take (k + 1)).flatten) := Lib.hid (by rw [← hxl, List.take_length, HF.out, crcR_app, HR.out])
          rw [HT.out]
          go_wp2
          go_round
          case rel => exact ⟨k + 1, by omega, by go_num, rfl⟩
          case measure => simp [intOf]; omega
    · obtain rfl : k = n := by omega
      have htk : (xs.take k) = xs := by rw [← HX.out.1, List.take_length]
      rw [htk]
      go_wp2
      go_ret
      exact ⟨rfl, HE.out⟩

set_option maxRecDepth 100000 in
set_option maxHeartbeats 2000000 in
theorem csum_any (A : Option Addr) (n c : Nat) (xs : List Bs) (w : World) (hx : RdBB w A n xs) (hn : n ≤ B40) (hs : ∀ x ∈ xs, x.length ≤ B47) :
    Calls Try.prog 57 #[.slice A n c] w fun e w' => e = .returned (.int .u32 (crcB xs.flatten : Nat)) ∧ Ext w w' := by
  go_enter Try.func57, Try.ntmps57
  go_wp2_with fail
  refine (take_any 4294967295 A n c xs _ (by decide) hx hn hs).mono ?_
  rintro e w1 ⟨rfl, hw1⟩
  have hl := crcR_lt (r := 4294967295) (by decide) xs.flatten
  have hc : crcB xs.flatten = 4294967295 ^^^ crcR 4294967295 xs.flatten := rfl
  obtain ⟨q, hq⟩ : ∃ q, q = crcR 4294967295 xs.flatten := ⟨_, rfl⟩
  rw [← hq] at hl hc ⊢
  clear hq
  go_wp2
  all_goals first
    | (rename_i h; exact absurd h (by decide))
    | (go_ret
       exact ⟨ret_w (bits_xor (a := 4294967295) (by decide) hl), hw1⟩)

set_option maxRecDepth 100000 in
set_option maxHeartbeats 2000000 in
theorem rmore_any (A : Option Addr) (n c : Nat) (x : Bs) (w : World) (hx : Rd w A n x) (hn : n ≤ B47) :
    Calls Try.prog 61 #[.int .u32 0, .slice A n c] w fun e w' => e = .returned (.int .u32 (crcB x : Nat)) ∧ w = w' := by
  unfold B47 at hn
  have hxl := hx.1
  have hb0 : bits BinOp.xor IntKind.u32 0 4294967295 = 4294967295 := by decide
  have HX := Lib.hid hx
  clear hx
  go_enter Try.func61, Try.ntmps61
  go_wp2
  go_loop [5, 6] (fun s i => ∃ j : Nat, j ≤ n ∧ i = .int .i64 j ∧ s = .int .u32 (crcR 4294967295 (x.take j) : Nat)) (fun _ i => n - (intOf i).toNat)
  case atStart => exact ⟨0, Nat.zero_le _, rfl, rfl⟩
  case round =>
    obtain ⟨j, hj, rfl, rfl⟩ := hrel
    by_cases hl2 : j < n
    · have hl2' : (j : Int) < (n : Int) := by omega
      obtain ⟨b2, o2, rfl, hcb⟩ := HX.out.2 (by omega)
      have hjx : j < x.length := by omega
      have hc1 := hcb j hjx
      have htk : x.take (j + 1) = x.take j ++ [x[j]] := List.take_succ_eq_append_getElem hjx
      have hq1 : crcR 4294967295 (x.take (j + 1)) = stepN (crcR 4294967295 (x.take j) ^^^ x[j].toNat) := by rw [htk, crcR_snoc]
      have hq2 : crcR 4294967295 (x.take j) < 4294967296 := crcR_lt (by decide) _
      obtain ⟨q, hq⟩ : ∃ q, q = crcR 4294967295 (x.take j) := ⟨_, rfl⟩
      obtain ⟨y, hy⟩ : ∃ y, y = x[j].toNat := ⟨_, rfl⟩
      have hy256 : y < 256 := by rw [hy]; exact x[j].toNat_lt
      rw [← hq, ← hy] at hq1
      rw [← hq] at hq2 ⊢
      rw [← hy] at hc1
      have hb1 := bits_xor (a := q) (b := y) hq2 (by omega)
      obtain ⟨p, hp⟩ : ∃ p, p = q ^^^ y := ⟨_, rfl⟩
      have hp32 : p < 4294967296 := by rw [hp]; exact xor_lt hq2 (by omega)
      rw [← hp] at hq1 hb1
      have HQ1 := Lib.hid hq1
      clear hcb htk hq1 hq hy hp
      go_wp2_with fail
      refine (rstep_any p _ hp32).mono ?_
      rintro e w1 ⟨rfl, rfl⟩
      go_wp2
      go_round
      case rel => exact ⟨j + 1, by omega, by go_num, by rw [HQ1.out]⟩
      case measure => simp [intOf]; omega
    · obtain rfl : j = n := by omega
      have htk : x.take j = x := by rw [← hxl, List.take_length]
      rw [htk]
      have hl := crcR_lt (r := 4294967295) (by decide) x
      have hc : crcB x = 4294967295 ^^^ crcR 4294967295 x := rfl
      obtain ⟨q, hq⟩ : ∃ q, q = crcR 4294967295 x := ⟨_, rfl⟩
      rw [← hq] at hl hc ⊢
      clear hq
      have hb1 := bits_xor (a := q) (b := 4294967295) hl (by decide)
      go_wp2
      go_ret
      exact ⟨ret_w (by rw [Nat.xor_comm]; exact hb1), rfl⟩

set_option maxRecDepth 100000 in
theorem rsum_any (A : Option Addr) (n c : Nat) (x : Bs) (w : World) (hx : Rd w A n x) (hn : n ≤ B47) :
    Calls Try.prog 37 #[.slice A n c] w fun e w' => e = .returned (.int .u32 (crcB x : Nat)) ∧ w = w' := by
  go_enter Try.func37, Try.ntmps37
  go_wp2_with fail
  refine (rmore_any A n c x _ hx hn).mono ?_
  rintro e w1 ⟨rfl, rfl⟩
  go_wp2
  go_ret
  exact ⟨rfl, rfl⟩


open Go.RowKit

theorem un4_bits32 (p0 p1 p2 p3 : UInt8) : bits BinOp.or IntKind.u32 (bits BinOp.or IntKind.u32 (bits BinOp.or IntKind.u32 (p0.toNat % 4294967296 * 16777216 % 4294967296) (p1.toNat % 4294967296 * 65536 % 4294967296)) (p2.toNat % 4294967296 * 256 % 4294967296)) (p3.toNat % 4294967296) = (un4 [p0, p1, p2, p3] : Nat) := by
  have h0 := u8lt p0
  have h1 := u8lt p1
  have h2 := u8lt p2
  have h3 := u8lt p3
  obtain ⟨a, ha⟩ : ∃ a, a = p0.toNat := ⟨_, rfl⟩
  obtain ⟨b, hb⟩ : ∃ a, a = p1.toNat := ⟨_, rfl⟩
  obtain ⟨c, hc⟩ : ∃ a, a = p2.toNat := ⟨_, rfl⟩
  obtain ⟨d, hd⟩ : ∃ a, a = p3.toNat := ⟨_, rfl⟩
  unfold un4
  simp only [← ha, ← hb, ← hc, ← hd] at *
  rw [bits_join .u32 32 (by decide) wraps_u32 24 ((a : Int) % 4294967296 * 16777216 % 4294967296) ((b : Int) % 4294967296 * 65536 % 4294967296) (by omega) (by omega) (by omega) (by omega) (by omega) (by omega)]
  rw [bits_join .u32 32 (by decide) wraps_u32 16 ((a : Int) % 4294967296 * 16777216 % 4294967296 + (b : Int) % 4294967296 * 65536 % 4294967296) ((c : Int) % 4294967296 * 256 % 4294967296) (by omega) (by omega) (by omega) (by omega) (by omega) (by omega)]
  rw [bits_join .u32 32 (by decide) wraps_u32 8 ((a : Int) % 4294967296 * 16777216 % 4294967296 + (b : Int) % 4294967296 * 65536 % 4294967296 + (c : Int) % 4294967296 * 256 % 4294967296) ((d : Int) % 4294967296) (by omega) (by omega) (by omega) (by omega) (by omega) (by omega)]
  omega

set_option maxRecDepth 100000 in
theorem fmay_any (n : Nat) (w : World) : Calls Try.prog 55 #[.int .i64 n] w fun e w' => e = .returned (.bool (mayF n)) ∧ w = w' := by
  unfold mayF
  by_cases h1 : (1 : Int) ≤ (n : Int)
  · have hn1 : 1 ≤ n := by omega
    by_cases h2 : (n : Int) ≤ 1048576
    · have hn2 : n ≤ 1048576 := by omega
      go_enter Try.func55, Try.ntmps55
      go_wp2
      go_ret
      exact ⟨ret_bool (by simp [hn1, hn2]), rfl⟩
    · have hn2 : ¬ n ≤ 1048576 := by omega
      go_enter Try.func55, Try.ntmps55
      go_wp2
      go_ret
      exact ⟨ret_bool (by simp [hn1, hn2]), rfl⟩
  · have hn1 : ¬ 1 ≤ n := by omega
    go_enter Try.func55, Try.ntmps55
    go_wp2
    go_ret
    exact ⟨ret_bool (by simp [hn1]), rfl⟩
set_option maxRecDepth 100000 in
theorem rmay4_any (n : Nat) (w : World) : Calls Try.prog 76 #[.int .i64 n] w fun e w' => e = .returned (.bool (mayF n)) ∧ w = w' := by
  unfold mayF
  by_cases h1 : (1 : Int) ≤ (n : Int)
  · have hn1 : 1 ≤ n := by omega
    by_cases h2 : (n : Int) ≤ 1048576
    · have hn2 : n ≤ 1048576 := by omega
      go_enter Try.func76, Try.ntmps76
      go_wp2
      go_ret
      exact ⟨ret_bool (by simp [hn1, hn2]), rfl⟩
    · have hn2 : ¬ n ≤ 1048576 := by omega
      go_enter Try.func76, Try.ntmps76
      go_wp2
      go_ret
      exact ⟨ret_bool (by simp [hn1, hn2]), rfl⟩
  · have hn1 : ¬ 1 ≤ n := by omega
    go_enter Try.func76, Try.ntmps76
    go_wp2
    go_ret
    exact ⟨ret_bool (by simp [hn1]), rfl⟩

/-- Size of a payload that may be. -/
theorem fsize_any (n : Nat) (w : World) (h : mayF n = true) : Calls Try.prog 43 #[.int .i64 n] w fun e w' => e = .returned (.int .i64 (8 + n : Nat)) ∧ w = w' := by
  have hm := h
  unfold mayF at hm
  simp only [decide_eq_true_eq] at hm
  go_enter Try.func43, Try.ntmps43
  go_wp2_with fail
  refine (fmay_any n _).mono ?_
  rintro e w1 ⟨rfl, rfl⟩
  rw [h]
  go_wp2
  go_ret
  exact ⟨by congr 2, rfl⟩

theorem w4_top {n : Nat} (hn : n < 4294967296) : (n : Int) / 16777216 % 256 = (n : Int) / 16777216 := by omega
set_option maxRecDepth 100000 in
set_option maxHeartbeats 1000000 in
theorem rword4_any (n : Nat) (w : World) (hn : n < 4294967296) :
    Calls Try.prog 36 #[.int .u32 n] w fun e w' => ∃ v', e = .returned v' ∧ OwnB w' w.heap.size v' (w4 n) ∧ Ext w w' := by
  go_enter Try.func36, Try.ntmps36
  go_wp2
  go_ret
  have h := own4 n (w := w)
  rw [w4_top hn] at h
  exact ⟨_, rfl, h, (by with_reducible (repeat (first | exact Ext.rfl_ _ | assumption | refine Ext.drew ?_ | refine Ext.drewN ?_ _ | refine Ext.alloc ?_ _ | refine Ext.trans ?_ (by assumption))))⟩

def w4V (n : Nat) : Array Value := #[.int .u8 ((n : Int) / 16777216), .int .u8 ((n : Int) / 65536 % 256), .int .u8 ((n : Int) / 256 % 256), .int .u8 ((n : Int) % 256)]
set_option maxRecDepth 100000 in
set_option maxHeartbeats 1000000 in
theorem fword_any (n : Nat) (w : World) (hn : n < 4294967296) :
    Calls Try.prog 56 #[.int .u32 n] w fun e w' => e = .returned (.agg (w4V n)) ∧ Ext w w' := by
  go_enter Try.func56, Try.ntmps56
  go_wp2
  have hb := heap_alloc_new w (.cells (w4V n) 82)
  have hs : Option.map (fun x => x.size) (Try.prog.info? 82) = some (w4V n).size := by kernel_rfl
  refine bodyPost_ret (v := .agg (w4V n)) ?_ rfl ⟨rfl, (by with_reducible (repeat (first | exact Ext.rfl_ _ | assumption | refine Ext.drew ?_ | refine Ext.drewN ?_ _ | refine Ext.alloc ?_ _ | refine Ext.trans ?_ (by assumption))))⟩
  exact results_cell_row rfl _ _ w.heap.size _ (w4V n) _ _ rfl hb Try.underlying82 rfl hs

theorem four_cells {w : World} {b o m : Nat} {x : Bs} (hx : Rd w (some ⟨b, o, none⟩) m x) (h4 : 4 ≤ m) : ∃ p0 p1 p2 p3, x.take 4 = [p0, p1, p2, p3] ∧ w.cell? ⟨b, o, none⟩ = some (.int .u8 (p0.toNat : Int)) ∧ w.cell? ⟨b, o + 1, none⟩ = some (.int .u8 (p1.toNat : Int)) ∧ w.cell? ⟨b, o + 2, none⟩ = some (.int .u8 (p2.toNat : Int)) ∧ w.cell? ⟨b, o + 3, none⟩ = some (.int .u8 (p3.toNat : Int)) := by
  obtain ⟨b', o', e, hcell⟩ := hx.at_ (by omega)
  cases e
  have hl := hx.1
  match x, hl with
  | p0 :: p1 :: p2 :: p3 :: r, _ =>
    have h0 := hcell 0 (by simp)
    have h1 := hcell 1 (by simp)
    have h2 := hcell 2 (by simp)
    have h3 := hcell 3 (by simp)
    simp at h0 h1 h2 h3
    exact ⟨p0, p1, p2, p3, rfl, h0, h1, h2, h3⟩
  | [], h => simp at h; omega
  | [_], h => simp at h; omega
  | [_, _], h => simp at h; omega
  | [_, _, _], h => simp at h; omega

set_option maxRecDepth 100000 in
set_option maxHeartbeats 2000000 in
theorem funword_any (b o m c : Nat) (x : Bs) (w : World) (hx : Rd w (some ⟨b, o, none⟩) m x) (h4 : 4 ≤ m) :
    Calls Try.prog 74 #[.slice (some ⟨b, o, none⟩) m c] w fun e w' => e = .returned (.int .u32 (un4 (x.take 4))) ∧ Ext w w' := by
  obtain ⟨p0, p1, p2, p3, e4, h0, h1, h2, h3⟩ := four_cells hx h4
  rw [e4]
  have hm0 : (0 : Int) < (m : Int) := by omega
  have hm1 : (1 : Int) < (m : Int) := by omega
  have hm2 : (2 : Int) < (m : Int) := by omega
  have hm3 : (3 : Int) < (m : Int) := by omega
  clear hx e4
  go_enter Try.func74, Try.ntmps74
  go_wp2
  go_quiet (fail)
  go_wp2
  go_ret
  exact ⟨ret_w (un4_bits32 p0 p1 p2 p3), (by with_reducible (repeat (first | exact Ext.rfl_ _ | assumption | refine Ext.drew ?_ | refine Ext.drewN ?_ _ | refine Ext.alloc ?_ _ | refine Ext.trans ?_ (by assumption))))⟩
set_option maxRecDepth 100000 in
set_option maxHeartbeats 2000000 in
theorem rlength_any (b o m c : Nat) (x : Bs) (w : World) (hx : Rd w (some ⟨b, o, none⟩) m x) (h4 : 4 ≤ m) :
    Calls Try.prog 75 #[.slice (some ⟨b, o, none⟩) m c] w fun e w' => e = .returned (.int .i64 (un4 (x.take 4))) ∧ Ext w w' := by
  obtain ⟨p0, p1, p2, p3, e4, h0, h1, h2, h3⟩ := four_cells hx h4
  rw [e4]
  have hm0 : (0 : Int) < (m : Int) := by omega
  have hm1 : (1 : Int) < (m : Int) := by omega
  have hm2 : (2 : Int) < (m : Int) := by omega
  have hm3 : (3 : Int) < (m : Int) := by omega
  clear hx e4
  go_enter Try.func75, Try.ntmps75
  go_wp2
  go_quiet (fail)
  go_wp2
  go_ret
  exact ⟨ret_i (un4_sum p0 p1 p2 p3), (by with_reducible (repeat (first | exact Ext.rfl_ _ | assumption | refine Ext.drew ?_ | refine Ext.drewN ?_ _ | refine Ext.alloc ?_ _ | refine Ext.trans ?_ (by assumption))))⟩


open Go.RowKit

theorem Rd.mid {w : World} {b o m : Nat} {x : Bs} (h : Rd w (some ⟨b, o, none⟩) m x) (k n : Nat) (hk : k + n ≤ m) : Rd w (some ⟨b, o + k, none⟩) n ((x.drop k).take n) := by
  have hl := h.1
  refine ⟨by rw [List.length_take, List.length_drop]; omega, fun hn => ⟨b, o + k, rfl, fun j hj => ?_⟩⟩
  obtain ⟨b', o', e, hc⟩ := h.at_ (by omega)
  cases e
  have hj' : k + j < x.length := by rw [List.length_take, List.length_drop] at hj; omega
  have := hc (k + j) hj'
  rw [← Nat.add_assoc] at this
  rw [this]
  simp [List.getElem_take, List.getElem_drop]
theorem Rd.front {w : World} {b o m : Nat} {x : Bs} (h : Rd w (some ⟨b, o, none⟩) m x) (n : Nat) (hk : n ≤ m) : Rd w (some ⟨b, o, none⟩) n (x.take n) := by
  have := h.mid 0 n (by omega)
  simpa using this
theorem Rd.back {w : World} {b o m : Nat} {x : Bs} (h : Rd w (some ⟨b, o, none⟩) m x) (k : Nat) (hk : k ≤ m) : Rd w (some ⟨b, o + k, none⟩) (m - k) (x.drop k) := by
  have := h.mid k (m - k) (by omega)
  rwa [List.take_of_length_le (by rw [List.length_drop, h.1]; exact Nat.le_refl _)] at this

theorem beq_nat (a b : Nat) : ((a : Int) == (b : Int)) = decide (a = b) := by
  by_cases h : a = b
  · simp [h]
  · have : ¬ (a : Int) = (b : Int) := by omega
    simp [h, this]

def wholeF (x : Bs) (n : Nat) : Bool := mayF n && (decide (n + 8 ≤ x.length) && decide (crcB (x.take 4 ++ (x.drop 8).take n) = un4 ((x.drop 4).take 4)))
theorem isF_whole (x : Bs) : isF x = (decide (8 ≤ x.length) && wholeF x (nF x)) := rfl

set_option maxRecDepth 100000 in
set_option maxHeartbeats 4000000 in
theorem first1_any (g b o m c n : Nat) (x : Bs) (w : World) (hx : Rd w (some ⟨b, o, none⟩) m x) (hmc : m ≤ c) (hm : m ≤ B40) (h8 : 8 ≤ m) (hn : n < 4294967296) (hg : w.cell? ⟨g, 0, none⟩ = some (.slice (some ⟨b, o, none⟩) m c)) :
    Calls Try.prog 85 #[.int .i64 n, .pointer (some ⟨g, 0, none⟩)] w fun e w' => e = .returned (.bool (wholeF x n)) ∧ Ext w w' := by
  have hxl := hx.1
  have HG := Lib.hid hg
  have HX := Lib.hid hx
  have hmb := hm
  unfold B40 at hm
  by_cases h1 : mayF n = true
  · have H1 := Lib.hid h1
    have hwr : IntKind.i64.wrap ((m : Int) - 8) = (m : Int) - 8 := by rw [IntKind.wrap_i64]; omega
    by_cases h2 : (n : Int) ≤ (m : Int) - 8
    · have hn1 : 1 ≤ n := by
        have := h1
        unfold mayF at this
        simp only [decide_eq_true_eq] at this
        exact this.1
      have hwr2 : IntKind.i64.wrap (8 + (n : Int)) = 8 + (n : Int) := by rw [IntKind.wrap_i64]; omega
      have X4 := Lib.hid (hx.front 4 (by omega))
      have XP := Lib.hid (hx.mid 8 n (by omega))
      have XB := Lib.hid (hx.back 4 (by omega))
      have hc4 : (4 : Int) ≤ (c : Int) := by omega
      have hc8 : 8 + (n : Int) ≤ (c : Int) := by omega
      have h48 : (4 : Int) ≤ (m : Int) := by omega
      have h08 : 0 ≤ 8 + (n : Int) := by omega
      have h88 : (8 : Int) ≤ max (8 + (n : Int)) 0 := by omega
      have hcn8 : ¬ c = 8 := by omega
      have hcn4 : ¬ c = 4 := by omega
      have htn : (8 + (n : Int)).toNat - 8 = n := by omega
      obtain ⟨s, hs⟩ : ∃ s, s = crcB [x.take 4, (x.drop 8).take n].flatten := ⟨_, rfl⟩
      obtain ⟨u, hu⟩ : ∃ u, u = un4 ((x.drop 4).take 4) := ⟨_, rfl⟩
      have hwf : Hid (wholeF x n = decide (s = u)) := Lib.hid (by
        unfold wholeF
        rw [h1, decide_eq_true (by omega : n + 8 ≤ x.length), hs, hu]
        simp)
      have HS := Lib.hid hs
      have HU := Lib.hid hu
      clear hg hx hs hu hxl h1
      go_enter Try.func85, Try.ntmps85
      go_wp2
      refine wp_region_held_drew (S := (fun w' => w'.cell? ⟨g, 0, none⟩ = some (.slice (some ⟨b, o, none⟩) m c))) (by kernel_rfl) (by (try dsimp only); exact Ext.keeps (show Ext w _ from (by with_reducible (repeat (first | exact Ext.rfl_ _ | assumption | refine Ext.drew ?_ | refine Ext.drewN ?_ _ | refine Ext.alloc ?_ _ | refine Ext.trans ?_ (by assumption))))) _ _ _ HG.out) (fun hHeld => ?_)
      refine wpAnyH_take (i := 0) (oi := ({ dst := some 4, op := Go.Op.move (Go.Operand.tmp 0), type := 3, pos := "frame.go:39", after := #[], guard := none } : Go.Oper)) (v := ?v1) rfl (by kernel_rfl) (by kernel_rfl) (by kernel_rfl) (fun _ _ _ h => h) (Or.inl ⟨by rfl, ?hy1⟩) (by assumption) ?rest1
      case hy1 => (intro w hSw; (try dsimp only at hSw); go_simp; (try with_reducible rfl))
      (try simp only [Act.put, List.getElem_toArray, List.getElem_cons_zero, List.getElem_cons_succ, List.setIfInBounds_toArray, List.set_cons_zero, List.set_cons_succ])
      refine wpAnyH_ready (rs := [1]) (by kernel_rfl) (by simp) ?_
      refine AllReadyH.cons (o := ({ dst := some 5, op := Go.Op.call { callee := Go.Callee.value (Go.Operand.func 55), args := #[Go.Operand.tmp 4], argTypes := #[3] }, type := 4, pos := "frame.go:39", after := #[{ on := 0, ground := Go.Ground.data }], guard := none } : Go.Oper)) rfl (fun K hK => ?_) AllReadyH.nil
      go_simp
      (first | (go_at_call 55; refine (fmay_any n _).mono ?_; rintro e w1 ⟨rfl, rfl⟩; rw [H1.out]) | (go_at_call 74; refine (funword_any b (o + 4) (m - 4) (c - 4) _ _ (XB.out.ext (by with_reducible (repeat (first | exact Ext.rfl_ _ | assumption | refine Ext.drew ?_ | refine Ext.drewN ?_ _ | refine Ext.alloc ?_ _ | refine Ext.trans ?_ (by assumption))))) (by clear hmb; omega)).mono ?_; rintro e w2 ⟨rfl, hw2⟩; rw [← HU.out]) | (go_at_call 57; refine (csum_any _ 2 2 [x.take 4, (x.drop 8).take n] _ (by first | exact RdBB.new2 (X4.out.ext (by with_reducible (repeat (first | exact Ext.rfl_ _ | assumption | refine Ext.drew ?_ | refine Ext.drewN ?_ _ | refine Ext.alloc ?_ _ | refine Ext.trans ?_ (by assumption))))) (XP.out.ext (by with_reducible (repeat (first | exact Ext.rfl_ _ | assumption | refine Ext.drew ?_ | refine Ext.drewN ?_ _ | refine Ext.alloc ?_ _ | refine Ext.trans ?_ (by assumption))))) | exact (RdBB.new2 (X4.out.ext (by with_reducible (repeat (first | exact Ext.rfl_ _ | assumption | refine Ext.drew ?_ | refine Ext.drewN ?_ _ | refine Ext.alloc ?_ _ | refine Ext.trans ?_ (by assumption))))) (XP.out.ext (by with_reducible (repeat (first | exact Ext.rfl_ _ | assumption | refine Ext.drew ?_ | refine Ext.drewN ?_ _ | refine Ext.alloc ?_ _ | refine Ext.trans ?_ (by assumption)))))).ext (by assumption)) (by decide) (by intro y hy; simp at hy; rcases hy with rfl | rfl <;> (simp; unfold B47; omega))).mono ?_; rintro e w3 ⟨rfl, hw3⟩; rw [← HS.out]))
      (try (go_wp2_with fail))
      refine hK.out _ _ (by (try dsimp only); exact Ext.keeps (show Ext w _ from (by with_reducible (repeat (first | exact Ext.rfl_ _ | assumption | refine Ext.drew ?_ | refine Ext.drewN ?_ _ | refine Ext.alloc ?_ _ | refine Ext.trans ?_ (by assumption))))) _ _ _ HG.out) (fun hHeld => ?_)
      clear hK K
      (try simp only [Act.put, List.getElem_toArray, List.getElem_cons_zero, List.getElem_cons_succ, List.setIfInBounds_toArray, List.set_cons_zero, List.set_cons_succ])
      refine wpAnyH_take (i := 2) (oi := ({ dst := some 6, op := Go.Op.move (Go.Operand.tmp 5), type := 4, pos := "frame.go:39", after := #[{ on := 1, ground := Go.Ground.data }, { on := 1, ground := Go.Ground.chain }], guard := none } : Go.Oper)) (v := ?v2) rfl (by kernel_rfl) (by kernel_rfl) (by kernel_rfl) (fun _ _ _ h => h) (Or.inl ⟨by rfl, ?hy2⟩) (by assumption) ?rest2
      case hy2 => (intro w hSw; (try dsimp only at hSw); go_simp; (try with_reducible rfl))
      (try simp only [Act.put, List.getElem_toArray, List.getElem_cons_zero, List.getElem_cons_succ, List.setIfInBounds_toArray, List.set_cons_zero, List.set_cons_succ])
      refine wpAnyH_take (i := 3) (oi := ({ dst := some 7, op := Go.Op.move (Go.Operand.tmp 0), type := 3, pos := "frame.go:39", after := #[{ on := 2, ground := Go.Ground.guard }], guard := some (2, true) } : Go.Oper)) (v := ?v3) rfl (by kernel_rfl) (by kernel_rfl) (by kernel_rfl) (fun _ _ _ h => h) (Or.inl ⟨by rfl, ?hy3⟩) (by assumption) ?rest3
      case hy3 => (intro w hSw; (try dsimp only at hSw); go_simp; (try with_reducible rfl))
      (try simp only [Act.put, List.getElem_toArray, List.getElem_cons_zero, List.getElem_cons_succ, List.setIfInBounds_toArray, List.set_cons_zero, List.set_cons_succ])
      refine wpAnyH_take (i := 4) (oi := ({ dst := some 8, op := Go.Op.load 29 (Go.Operand.tmp 1), type := 29, pos := "frame.go:39", after := #[{ on := 2, ground := Go.Ground.guard }], guard := some (2, true) } : Go.Oper)) (v := ?v4) rfl (by kernel_rfl) (by kernel_rfl) (by kernel_rfl) (fun _ _ _ h => h) (Or.inl ⟨by rfl, ?hy4⟩) (by assumption) ?rest4
      case hy4 => (intro w hSw; (try dsimp only at hSw); go_simp; (try with_reducible rfl))
      (try simp only [Act.put, List.getElem_toArray, List.getElem_cons_zero, List.getElem_cons_succ, List.setIfInBounds_toArray, List.set_cons_zero, List.set_cons_succ])
      refine wpAnyH_take (i := 5) (oi := ({ dst := some 9, op := Go.Op.call { callee := Go.Callee.builtin Go.Builtin.len, args := #[Go.Operand.tmp 8], argTypes := #[29] }, type := 3, pos := "frame.go:39", after := #[{ on := 4, ground := Go.Ground.data }, { on := 2, ground := Go.Ground.guard }], guard := some (2, true) } : Go.Oper)) (v := ?v5) rfl (by kernel_rfl) (by kernel_rfl) (by kernel_rfl) (fun _ _ _ h => h) (Or.inl ⟨by rfl, ?hy5⟩) (by assumption) ?rest5
      case hy5 => (intro w hSw; (try dsimp only at hSw); go_simp; (try with_reducible rfl))
      (try simp only [Act.put, List.getElem_toArray, List.getElem_cons_zero, List.getElem_cons_succ, List.setIfInBounds_toArray, List.set_cons_zero, List.set_cons_succ])
      refine wpAnyH_take (i := 6) (oi := ({ dst := some 10, op := Go.Op.binOp Go.BinOp.sub 3 (Go.Operand.tmp 9) (Go.Operand.const (Go.Value.int Go.IntKind.i64 8)) 3, type := 3, pos := "frame.go:39", after := #[{ on := 5, ground := Go.Ground.data }, { on := 2, ground := Go.Ground.guard }], guard := some (2, true) } : Go.Oper)) (v := ?v6) rfl (by kernel_rfl) (by kernel_rfl) (by kernel_rfl) (fun _ _ _ h => h) (Or.inl ⟨by rfl, ?hy6⟩) (by assumption) ?rest6
      case hy6 => (intro w hSw; (try dsimp only at hSw); go_simp; (try with_reducible rfl))
      (try simp only [Act.put, List.getElem_toArray, List.getElem_cons_zero, List.getElem_cons_succ, List.setIfInBounds_toArray, List.set_cons_zero, List.set_cons_succ])
      refine wpAnyH_take (i := 7) (oi := ({ dst := some 11, op := Go.Op.binOp Go.BinOp.leq 3 (Go.Operand.tmp 7) (Go.Operand.tmp 10) 3, type := 4, pos := "frame.go:39", after := #[{ on := 3, ground := Go.Ground.data }, { on := 6, ground := Go.Ground.data }, { on := 2, ground := Go.Ground.guard }], guard := some (2, true) } : Go.Oper)) (v := ?v7) rfl (by kernel_rfl) (by kernel_rfl) (by kernel_rfl) (fun _ _ _ h => h) (Or.inl ⟨by rfl, ?hy7⟩) (by assumption) ?rest7
      case hy7 => (intro w hSw; (try dsimp only at hSw); go_simp; (try with_reducible rfl))
      (try simp only [Act.put, List.getElem_toArray, List.getElem_cons_zero, List.getElem_cons_succ, List.setIfInBounds_toArray, List.set_cons_zero, List.set_cons_succ])
      refine wpAnyH_take (i := 8) (oi := ({ dst := some 12, op := Go.Op.pick (Go.Operand.tmp 6) (Go.Operand.tmp 11) (Go.Operand.const (Go.Value.bool false)), type := 4, pos := "frame.go:39", after := #[{ on := 2, ground := Go.Ground.data }, { on := 7, ground := Go.Ground.data }], guard := none } : Go.Oper)) (v := ?v8) rfl (by kernel_rfl) (by kernel_rfl) (by kernel_rfl) (fun _ _ _ h => h) (Or.inl ⟨by rfl, ?hy8⟩) (by assumption) ?rest8
      case hy8 => (intro w hSw; (try dsimp only at hSw); go_simp; (try with_reducible rfl))
      (try simp only [Act.put, List.getElem_toArray, List.getElem_cons_zero, List.getElem_cons_succ, List.setIfInBounds_toArray, List.set_cons_zero, List.set_cons_succ])
      refine wpAnyH_take (i := 9) (oi := ({ dst := some 13, op := Go.Op.move (Go.Operand.tmp 12), type := 4, pos := "frame.go:39", after := #[{ on := 8, ground := Go.Ground.data }, { on := 2, ground := Go.Ground.chain }], guard := none } : Go.Oper)) (v := ?v9) rfl (by kernel_rfl) (by kernel_rfl) (by kernel_rfl) (fun _ _ _ h => h) (Or.inl ⟨by rfl, ?hy9⟩) (by assumption) ?rest9
      case hy9 => (intro w hSw; (try dsimp only at hSw); go_simp; (try with_reducible rfl))
      (try simp only [Act.put, List.getElem_toArray, List.getElem_cons_zero, List.getElem_cons_succ, List.setIfInBounds_toArray, List.set_cons_zero, List.set_cons_succ])
      refine wpAnyH_take (i := 10) (oi := ({ dst := some 14, op := Go.Op.load 29 (Go.Operand.tmp 1), type := 29, pos := "frame.go:39", after := #[{ on := 9, ground := Go.Ground.guard }], guard := some (9, true) } : Go.Oper)) (v := ?v10) rfl (by kernel_rfl) (by kernel_rfl) (by kernel_rfl) (fun _ _ _ h => h) (Or.inl ⟨by rfl, ?hy10⟩) (by assumption) ?rest10
      case hy10 => (intro w hSw; (try dsimp only at hSw); go_simp; (try with_reducible rfl))
      (try simp only [Act.put, List.getElem_toArray, List.getElem_cons_zero, List.getElem_cons_succ, List.setIfInBounds_toArray, List.set_cons_zero, List.set_cons_succ])
      refine wpAnyH_take (i := 11) (oi := ({ dst := some 15, op := Go.Op.slice 29 (Go.Operand.tmp 14) none (some (Go.Operand.const (Go.Value.int Go.IntKind.i64 4))) none, type := 29, pos := "frame.go:39", after := #[{ on := 10, ground := Go.Ground.data }, { on := 9, ground := Go.Ground.guard }], guard := some (9, true) } : Go.Oper)) (v := ?v11) rfl (by kernel_rfl) (by kernel_rfl) (by kernel_rfl) (fun _ _ _ h => h) (Or.inl ⟨by rfl, ?hy11⟩) (by assumption) ?rest11
      case hy11 => (intro w hSw; (try dsimp only at hSw); go_simp; (try with_reducible rfl))
      (try simp only [Act.put, List.getElem_toArray, List.getElem_cons_zero, List.getElem_cons_succ, List.setIfInBounds_toArray, List.set_cons_zero, List.set_cons_succ])
      refine wpAnyH_take (i := 12) (oi := ({ dst := some 16, op := Go.Op.load 29 (Go.Operand.tmp 1), type := 29, pos := "frame.go:39", after := #[{ on := 9, ground := Go.Ground.guard }], guard := some (9, true) } : Go.Oper)) (v := ?v12) rfl (by kernel_rfl) (by kernel_rfl) (by kernel_rfl) (fun _ _ _ h => h) (Or.inl ⟨by rfl, ?hy12⟩) (by assumption) ?rest12
      case hy12 => (intro w hSw; (try dsimp only at hSw); go_simp; (try with_reducible rfl))
      (try simp only [Act.put, List.getElem_toArray, List.getElem_cons_zero, List.getElem_cons_succ, List.setIfInBounds_toArray, List.set_cons_zero, List.set_cons_succ])
      refine wpAnyH_take (i := 13) (oi := ({ dst := some 17, op := Go.Op.move (Go.Operand.tmp 0), type := 3, pos := "frame.go:39", after := #[{ on := 9, ground := Go.Ground.guard }], guard := some (9, true) } : Go.Oper)) (v := ?v13) rfl (by kernel_rfl) (by kernel_rfl) (by kernel_rfl) (fun _ _ _ h => h) (Or.inl ⟨by rfl, ?hy13⟩) (by assumption) ?rest13
      case hy13 => (intro w hSw; (try dsimp only at hSw); go_simp; (try with_reducible rfl))
      (try simp only [Act.put, List.getElem_toArray, List.getElem_cons_zero, List.getElem_cons_succ, List.setIfInBounds_toArray, List.set_cons_zero, List.set_cons_succ])
      refine wpAnyH_take (i := 14) (oi := ({ dst := some 18, op := Go.Op.binOp Go.BinOp.add 3 (Go.Operand.const (Go.Value.int Go.IntKind.i64 8)) (Go.Operand.tmp 17) 3, type := 3, pos := "frame.go:39", after := #[{ on := 13, ground := Go.Ground.data }, { on := 9, ground := Go.Ground.guard }], guard := some (9, true) } : Go.Oper)) (v := ?v14) rfl (by kernel_rfl) (by kernel_rfl) (by kernel_rfl) (fun _ _ _ h => h) (Or.inl ⟨by rfl, ?hy14⟩) (by assumption) ?rest14
      case hy14 => (intro w hSw; (try dsimp only at hSw); go_simp; (try with_reducible rfl))
      (try simp only [Act.put, List.getElem_toArray, List.getElem_cons_zero, List.getElem_cons_succ, List.setIfInBounds_toArray, List.set_cons_zero, List.set_cons_succ])
      refine wpAnyH_take (i := 15) (oi := ({ dst := some 19, op := Go.Op.slice 29 (Go.Operand.tmp 16) (some (Go.Operand.const (Go.Value.int Go.IntKind.i64 8))) (some (Go.Operand.tmp 18)) none, type := 29, pos := "frame.go:39", after := #[{ on := 12, ground := Go.Ground.data }, { on := 14, ground := Go.Ground.data }, { on := 9, ground := Go.Ground.guard }], guard := some (9, true) } : Go.Oper)) (v := ?v15) rfl (by kernel_rfl) (by kernel_rfl) (by kernel_rfl) (fun _ _ _ h => h) (Or.inl ⟨by rfl, ?hy15⟩) (by assumption) ?rest15
      case hy15 => (intro w hSw; (try dsimp only at hSw); go_simp; (try with_reducible rfl))
      (try simp only [Act.put, List.getElem_toArray, List.getElem_cons_zero, List.getElem_cons_succ, List.setIfInBounds_toArray, List.set_cons_zero, List.set_cons_succ])
      refine wpAnyH_take (i := 18) (oi := ({ dst := some 22, op := Go.Op.load 29 (Go.Operand.tmp 1), type := 29, pos := "frame.go:39", after := #[{ on := 9, ground := Go.Ground.guard }], guard := some (9, true) } : Go.Oper)) (v := ?v16) rfl (by kernel_rfl) (by kernel_rfl) (by kernel_rfl) (fun _ _ _ h => h) (Or.inl ⟨by rfl, ?hy16⟩) (by assumption) ?rest16
      case hy16 => (intro w hSw; (try dsimp only at hSw); go_simp; (try with_reducible rfl))
      (try simp only [Act.put, List.getElem_toArray, List.getElem_cons_zero, List.getElem_cons_succ, List.setIfInBounds_toArray, List.set_cons_zero, List.set_cons_succ])
      refine wpAnyH_take (i := 19) (oi := ({ dst := some 23, op := Go.Op.slice 29 (Go.Operand.tmp 22) (some (Go.Operand.const (Go.Value.int Go.IntKind.i64 4))) none none, type := 29, pos := "frame.go:39", after := #[{ on := 18, ground := Go.Ground.data }, { on := 9, ground := Go.Ground.guard }], guard := some (9, true) } : Go.Oper)) (v := ?v17) rfl (by kernel_rfl) (by kernel_rfl) (by kernel_rfl) (fun _ _ _ h => h) (Or.inl ⟨by rfl, ?hy17⟩) (by assumption) ?rest17
      case hy17 => (intro w hSw; (try dsimp only at hSw); go_simp; (try with_reducible rfl))
      (try simp only [Act.put, List.getElem_toArray, List.getElem_cons_zero, List.getElem_cons_succ, List.setIfInBounds_toArray, List.set_cons_zero, List.set_cons_succ])
      refine wpAnyH_ready (rs := [16]) (by kernel_rfl) (by simp) ?_
      refine AllReadyH.cons (o := ({ dst := some 20, op := Go.Op.buildSlice 70 2 #[(0, Go.Operand.tmp 15), (1, Go.Operand.tmp 19)], type := 70, pos := "frame.go:39", after := #[{ on := 11, ground := Go.Ground.data }, { on := 15, ground := Go.Ground.data }, { on := 9, ground := Go.Ground.guard }], guard := some (9, true) } : Go.Oper)) rfl (fun K hK => ?_) AllReadyH.nil
      go_simp
      refine hK.out _ _ (by (try dsimp only); exact Ext.keeps (show Ext w _ from (by with_reducible (repeat (first | exact Ext.rfl_ _ | assumption | refine Ext.drew ?_ | refine Ext.drewN ?_ _ | refine Ext.alloc ?_ _ | refine Ext.trans ?_ (by assumption))))) _ _ _ HG.out) (fun hHeld => ?_)
      clear hK K
      (try simp only [Act.put, List.getElem_toArray, List.getElem_cons_zero, List.getElem_cons_succ, List.setIfInBounds_toArray, List.set_cons_zero, List.set_cons_succ])
      refine wpAnyH_ready (rs := [17]) (by kernel_rfl) (by simp) ?_
      refine AllReadyH.cons (o := ({ dst := some 21, op := Go.Op.call { callee := Go.Callee.value (Go.Operand.func 57), args := #[Go.Operand.tmp 20], argTypes := #[70] }, type := 60, pos := "frame.go:39", after := #[{ on := 16, ground := Go.Ground.data }, { on := 9, ground := Go.Ground.chain }, { on := 9, ground := Go.Ground.guard }], guard := some (9, true) } : Go.Oper)) rfl (fun K hK => ?_) AllReadyH.nil
      go_simp
      (first | (go_at_call 55; refine (fmay_any n _).mono ?_; rintro e w1 ⟨rfl, rfl⟩; rw [H1.out]) | (go_at_call 74; refine (funword_any b (o + 4) (m - 4) (c - 4) _ _ (XB.out.ext (by with_reducible (repeat (first | exact Ext.rfl_ _ | assumption | refine Ext.drew ?_ | refine Ext.drewN ?_ _ | refine Ext.alloc ?_ _ | refine Ext.trans ?_ (by assumption))))) (by clear hmb; omega)).mono ?_; rintro e w2 ⟨rfl, hw2⟩; rw [← HU.out]) | (go_at_call 57; refine (csum_any _ 2 2 [x.take 4, (x.drop 8).take n] _ (by first | exact RdBB.new2 (X4.out.ext (by with_reducible (repeat (first | exact Ext.rfl_ _ | assumption | refine Ext.drew ?_ | refine Ext.drewN ?_ _ | refine Ext.alloc ?_ _ | refine Ext.trans ?_ (by assumption))))) (XP.out.ext (by with_reducible (repeat (first | exact Ext.rfl_ _ | assumption | refine Ext.drew ?_ | refine Ext.drewN ?_ _ | refine Ext.alloc ?_ _ | refine Ext.trans ?_ (by assumption))))) | exact (RdBB.new2 (X4.out.ext (by with_reducible (repeat (first | exact Ext.rfl_ _ | assumption | refine Ext.drew ?_ | refine Ext.drewN ?_ _ | refine Ext.alloc ?_ _ | refine Ext.trans ?_ (by assumption))))) (XP.out.ext (by with_reducible (repeat (first | exact Ext.rfl_ _ | assumption | refine Ext.drew ?_ | refine Ext.drewN ?_ _ | refine Ext.alloc ?_ _ | refine Ext.trans ?_ (by assumption)))))).ext (by assumption)) (by decide) (by intro y hy; simp at hy; rcases hy with rfl | rfl <;> (simp; unfold B47; omega))).mono ?_; rintro e w3 ⟨rfl, hw3⟩; rw [← HS.out]))
      (try (go_wp2_with fail))
      refine hK.out _ _ (by (try dsimp only); exact Ext.keeps (show Ext w _ from (by with_reducible (repeat (first | exact Ext.rfl_ _ | assumption | refine Ext.drew ?_ | refine Ext.drewN ?_ _ | refine Ext.alloc ?_ _ | refine Ext.trans ?_ (by assumption))))) _ _ _ HG.out) (fun hHeld => ?_)
      clear hK K
      (try simp only [Act.put, List.getElem_toArray, List.getElem_cons_zero, List.getElem_cons_succ, List.setIfInBounds_toArray, List.set_cons_zero, List.set_cons_succ])
      refine wpAnyH_ready (rs := [20]) (by kernel_rfl) (by simp) ?_
      refine AllReadyH.cons (o := ({ dst := some 24, op := Go.Op.call { callee := Go.Callee.value (Go.Operand.func 74), args := #[Go.Operand.tmp 23], argTypes := #[29] }, type := 60, pos := "frame.go:39", after := #[{ on := 19, ground := Go.Ground.data }, { on := 17, ground := Go.Ground.chain }, { on := 9, ground := Go.Ground.guard }], guard := some (9, true) } : Go.Oper)) rfl (fun K hK => ?_) AllReadyH.nil
      go_simp
      (first | (go_at_call 55; refine (fmay_any n _).mono ?_; rintro e w1 ⟨rfl, rfl⟩; rw [H1.out]) | (go_at_call 74; refine (funword_any b (o + 4) (m - 4) (c - 4) _ _ (XB.out.ext (by with_reducible (repeat (first | exact Ext.rfl_ _ | assumption | refine Ext.drew ?_ | refine Ext.drewN ?_ _ | refine Ext.alloc ?_ _ | refine Ext.trans ?_ (by assumption))))) (by clear hmb; omega)).mono ?_; rintro e w2 ⟨rfl, hw2⟩; rw [← HU.out]) | (go_at_call 57; refine (csum_any _ 2 2 [x.take 4, (x.drop 8).take n] _ (by first | exact RdBB.new2 (X4.out.ext (by with_reducible (repeat (first | exact Ext.rfl_ _ | assumption | refine Ext.drew ?_ | refine Ext.drewN ?_ _ | refine Ext.alloc ?_ _ | refine Ext.trans ?_ (by assumption))))) (XP.out.ext (by with_reducible (repeat (first | exact Ext.rfl_ _ | assumption | refine Ext.drew ?_ | refine Ext.drewN ?_ _ | refine Ext.alloc ?_ _ | refine Ext.trans ?_ (by assumption))))) | exact (RdBB.new2 (X4.out.ext (by with_reducible (repeat (first | exact Ext.rfl_ _ | assumption | refine Ext.drew ?_ | refine Ext.drewN ?_ _ | refine Ext.alloc ?_ _ | refine Ext.trans ?_ (by assumption))))) (XP.out.ext (by with_reducible (repeat (first | exact Ext.rfl_ _ | assumption | refine Ext.drew ?_ | refine Ext.drewN ?_ _ | refine Ext.alloc ?_ _ | refine Ext.trans ?_ (by assumption)))))).ext (by assumption)) (by decide) (by intro y hy; simp at hy; rcases hy with rfl | rfl <;> (simp; unfold B47; omega))).mono ?_; rintro e w3 ⟨rfl, hw3⟩; rw [← HS.out]))
      (try (go_wp2_with fail))
      refine hK.out _ _ (by (try dsimp only); exact Ext.keeps (show Ext w _ from (by with_reducible (repeat (first | exact Ext.rfl_ _ | assumption | refine Ext.drew ?_ | refine Ext.drewN ?_ _ | refine Ext.alloc ?_ _ | refine Ext.trans ?_ (by assumption))))) _ _ _ HG.out) (fun hHeld => ?_)
      clear hK K
      (try simp only [Act.put, List.getElem_toArray, List.getElem_cons_zero, List.getElem_cons_succ, List.setIfInBounds_toArray, List.set_cons_zero, List.set_cons_succ])
      refine wpAnyH_take (i := 21) (oi := ({ dst := some 25, op := Go.Op.binOp Go.BinOp.eql 60 (Go.Operand.tmp 21) (Go.Operand.tmp 24) 60, type := 4, pos := "frame.go:39", after := #[{ on := 17, ground := Go.Ground.data }, { on := 20, ground := Go.Ground.data }, { on := 9, ground := Go.Ground.guard }], guard := some (9, true) } : Go.Oper)) (v := ?v18) rfl (by kernel_rfl) (by kernel_rfl) (by kernel_rfl) (fun _ _ _ h => h) (Or.inl ⟨by rfl, ?hy18⟩) (by assumption) ?rest18
      case hy18 => (intro w hSw; (try dsimp only at hSw); go_simp; (try with_reducible rfl))
      (try simp only [Act.put, List.getElem_toArray, List.getElem_cons_zero, List.getElem_cons_succ, List.setIfInBounds_toArray, List.set_cons_zero, List.set_cons_succ])
      refine wpAnyH_take (i := 22) (oi := ({ dst := some 26, op := Go.Op.pick (Go.Operand.tmp 13) (Go.Operand.tmp 25) (Go.Operand.const (Go.Value.bool false)), type := 4, pos := "frame.go:39", after := #[{ on := 9, ground := Go.Ground.data }, { on := 21, ground := Go.Ground.data }], guard := none } : Go.Oper)) (v := ?v19) rfl (by kernel_rfl) (by kernel_rfl) (by kernel_rfl) (fun _ _ _ h => h) (Or.inl ⟨by rfl, ?hy19⟩) (by assumption) ?rest19
      case hy19 => (intro w hSw; (try dsimp only at hSw); go_simp; (try with_reducible rfl))
      (try simp only [Act.put, List.getElem_toArray, List.getElem_cons_zero, List.getElem_cons_succ, List.setIfInBounds_toArray, List.set_cons_zero, List.set_cons_succ])
      refine wpAnyH_take (i := 23) (oi := ({ dst := some 3, op := Go.Op.assign (Go.Operand.tmp 26), type := 4, pos := "frame.go:39", after := #[{ on := 22, ground := Go.Ground.data }, { on := 20, ground := Go.Ground.chain }, { on := 0, ground := Go.Ground.phase }, { on := 1, ground := Go.Ground.phase }, { on := 2, ground := Go.Ground.phase }, { on := 3, ground := Go.Ground.phase }, { on := 4, ground := Go.Ground.phase }, { on := 5, ground := Go.Ground.phase }, { on := 6, ground := Go.Ground.phase }, { on := 7, ground := Go.Ground.phase }, { on := 8, ground := Go.Ground.phase }, { on := 9, ground := Go.Ground.phase }, { on := 10, ground := Go.Ground.phase }, { on := 11, ground := Go.Ground.phase }, { on := 12, ground := Go.Ground.phase }, { on := 13, ground := Go.Ground.phase }, { on := 14, ground := Go.Ground.phase }, { on := 15, ground := Go.Ground.phase }, { on := 16, ground := Go.Ground.phase }, { on := 17, ground := Go.Ground.phase }, { on := 18, ground := Go.Ground.phase }, { on := 19, ground := Go.Ground.phase }, { on := 20, ground := Go.Ground.phase }, { on := 21, ground := Go.Ground.phase }, { on := 22, ground := Go.Ground.phase }], guard := none } : Go.Oper)) (v := ?v20) rfl (by kernel_rfl) (by kernel_rfl) (by kernel_rfl) (fun _ _ _ h => h) (Or.inl ⟨by rfl, ?hy20⟩) (by assumption) ?rest20
      case hy20 => (intro w hSw; (try dsimp only at hSw); go_simp; (try with_reducible rfl))
      (try simp only [Act.put, List.getElem_toArray, List.getElem_cons_zero, List.getElem_cons_succ, List.setIfInBounds_toArray, List.set_cons_zero, List.set_cons_succ])
      refine wpAnyH_done (by kernel_rfl) ?_ _
      all_goals
        go_wp2
        go_ret
        exact ⟨ret_bool (by rw [hwf.out]; exact beq_nat s u), (by with_reducible (repeat (first | exact Ext.rfl_ _ | assumption | refine Ext.drew ?_ | refine Ext.drewN ?_ _ | refine Ext.alloc ?_ _ | refine Ext.trans ?_ (by assumption))))⟩
    · have h2f : decide ((n : Int) ≤ (m : Int) - 8) = false := decide_eq_false h2
      have hwf : Hid (wholeF x n = false) := Lib.hid (by
        unfold wholeF
        rw [decide_eq_false (by omega : ¬ n + 8 ≤ x.length)]
        simp)
      clear hg hx hxl h1
      go_enter Try.func85, Try.ntmps85
      go_wp2
      refine wp_region_held_drew (S := (fun w' => w'.cell? ⟨g, 0, none⟩ = some (.slice (some ⟨b, o, none⟩) m c))) (by kernel_rfl) (by (try dsimp only); exact Ext.keeps (show Ext w _ from (by with_reducible (repeat (first | exact Ext.rfl_ _ | assumption | refine Ext.drew ?_ | refine Ext.drewN ?_ _ | refine Ext.alloc ?_ _ | refine Ext.trans ?_ (by assumption))))) _ _ _ HG.out) (fun hHeld => ?_)
      refine wpAnyH_take (i := 0) (oi := ({ dst := some 4, op := Go.Op.move (Go.Operand.tmp 0), type := 3, pos := "frame.go:39", after := #[], guard := none } : Go.Oper)) (v := ?v21) rfl (by kernel_rfl) (by kernel_rfl) (by kernel_rfl) (fun _ _ _ h => h) (Or.inl ⟨by rfl, ?hy21⟩) (by assumption) ?rest21
      case hy21 => (intro w hSw; (try dsimp only at hSw); go_simp; (try with_reducible rfl))
      (try simp only [Act.put, List.getElem_toArray, List.getElem_cons_zero, List.getElem_cons_succ, List.setIfInBounds_toArray, List.set_cons_zero, List.set_cons_succ])
      refine wpAnyH_ready (rs := [1]) (by kernel_rfl) (by simp) ?_
      refine AllReadyH.cons (o := ({ dst := some 5, op := Go.Op.call { callee := Go.Callee.value (Go.Operand.func 55), args := #[Go.Operand.tmp 4], argTypes := #[3] }, type := 4, pos := "frame.go:39", after := #[{ on := 0, ground := Go.Ground.data }], guard := none } : Go.Oper)) rfl (fun K hK => ?_) AllReadyH.nil
      go_simp
      (go_at_call 55; refine (fmay_any n _).mono ?_; rintro e w1 ⟨rfl, rfl⟩; rw [H1.out])
      (try (go_wp2_with fail))
      refine hK.out _ _ (by (try dsimp only); exact Ext.keeps (show Ext w _ from (by with_reducible (repeat (first | exact Ext.rfl_ _ | assumption | refine Ext.drew ?_ | refine Ext.drewN ?_ _ | refine Ext.alloc ?_ _ | refine Ext.trans ?_ (by assumption))))) _ _ _ HG.out) (fun hHeld => ?_)
      clear hK K
      (try simp only [Act.put, List.getElem_toArray, List.getElem_cons_zero, List.getElem_cons_succ, List.setIfInBounds_toArray, List.set_cons_zero, List.set_cons_succ])
      refine wpAnyH_take (i := 2) (oi := ({ dst := some 6, op := Go.Op.move (Go.Operand.tmp 5), type := 4, pos := "frame.go:39", after := #[{ on := 1, ground := Go.Ground.data }, { on := 1, ground := Go.Ground.chain }], guard := none } : Go.Oper)) (v := ?v22) rfl (by kernel_rfl) (by kernel_rfl) (by kernel_rfl) (fun _ _ _ h => h) (Or.inl ⟨by rfl, ?hy22⟩) (by assumption) ?rest22
      case hy22 => (intro w hSw; (try dsimp only at hSw); go_simp; (try with_reducible rfl))
      (try simp only [Act.put, List.getElem_toArray, List.getElem_cons_zero, List.getElem_cons_succ, List.setIfInBounds_toArray, List.set_cons_zero, List.set_cons_succ])
      refine wpAnyH_take (i := 3) (oi := ({ dst := some 7, op := Go.Op.move (Go.Operand.tmp 0), type := 3, pos := "frame.go:39", after := #[{ on := 2, ground := Go.Ground.guard }], guard := some (2, true) } : Go.Oper)) (v := ?v23) rfl (by kernel_rfl) (by kernel_rfl) (by kernel_rfl) (fun _ _ _ h => h) (Or.inl ⟨by rfl, ?hy23⟩) (by assumption) ?rest23
      case hy23 => (intro w hSw; (try dsimp only at hSw); go_simp; (try with_reducible rfl))
      (try simp only [Act.put, List.getElem_toArray, List.getElem_cons_zero, List.getElem_cons_succ, List.setIfInBounds_toArray, List.set_cons_zero, List.set_cons_succ])
      refine wpAnyH_take (i := 4) (oi := ({ dst := some 8, op := Go.Op.load 29 (Go.Operand.tmp 1), type := 29, pos := "frame.go:39", after := #[{ on := 2, ground := Go.Ground.guard }], guard := some (2, true) } : Go.Oper)) (v := ?v24) rfl (by kernel_rfl) (by kernel_rfl) (by kernel_rfl) (fun _ _ _ h => h) (Or.inl ⟨by rfl, ?hy24⟩) (by assumption) ?rest24
      case hy24 => (intro w hSw; (try dsimp only at hSw); go_simp; (try with_reducible rfl))
      (try simp only [Act.put, List.getElem_toArray, List.getElem_cons_zero, List.getElem_cons_succ, List.setIfInBounds_toArray, List.set_cons_zero, List.set_cons_succ])
      refine wpAnyH_take (i := 5) (oi := ({ dst := some 9, op := Go.Op.call { callee := Go.Callee.builtin Go.Builtin.len, args := #[Go.Operand.tmp 8], argTypes := #[29] }, type := 3, pos := "frame.go:39", after := #[{ on := 4, ground := Go.Ground.data }, { on := 2, ground := Go.Ground.guard }], guard := some (2, true) } : Go.Oper)) (v := ?v25) rfl (by kernel_rfl) (by kernel_rfl) (by kernel_rfl) (fun _ _ _ h => h) (Or.inl ⟨by rfl, ?hy25⟩) (by assumption) ?rest25
      case hy25 => (intro w hSw; (try dsimp only at hSw); go_simp; (try with_reducible rfl))
      (try simp only [Act.put, List.getElem_toArray, List.getElem_cons_zero, List.getElem_cons_succ, List.setIfInBounds_toArray, List.set_cons_zero, List.set_cons_succ])
      refine wpAnyH_take (i := 6) (oi := ({ dst := some 10, op := Go.Op.binOp Go.BinOp.sub 3 (Go.Operand.tmp 9) (Go.Operand.const (Go.Value.int Go.IntKind.i64 8)) 3, type := 3, pos := "frame.go:39", after := #[{ on := 5, ground := Go.Ground.data }, { on := 2, ground := Go.Ground.guard }], guard := some (2, true) } : Go.Oper)) (v := ?v26) rfl (by kernel_rfl) (by kernel_rfl) (by kernel_rfl) (fun _ _ _ h => h) (Or.inl ⟨by rfl, ?hy26⟩) (by assumption) ?rest26
      case hy26 => (intro w hSw; (try dsimp only at hSw); go_simp; (try with_reducible rfl))
      (try simp only [Act.put, List.getElem_toArray, List.getElem_cons_zero, List.getElem_cons_succ, List.setIfInBounds_toArray, List.set_cons_zero, List.set_cons_succ])
      refine wpAnyH_take (i := 7) (oi := ({ dst := some 11, op := Go.Op.binOp Go.BinOp.leq 3 (Go.Operand.tmp 7) (Go.Operand.tmp 10) 3, type := 4, pos := "frame.go:39", after := #[{ on := 3, ground := Go.Ground.data }, { on := 6, ground := Go.Ground.data }, { on := 2, ground := Go.Ground.guard }], guard := some (2, true) } : Go.Oper)) (v := ?v27) rfl (by kernel_rfl) (by kernel_rfl) (by kernel_rfl) (fun _ _ _ h => h) (Or.inl ⟨by rfl, ?hy27⟩) (by assumption) ?rest27
      case hy27 => (intro w hSw; (try dsimp only at hSw); go_simp; (try with_reducible rfl))
      (try simp only [Act.put, List.getElem_toArray, List.getElem_cons_zero, List.getElem_cons_succ, List.setIfInBounds_toArray, List.set_cons_zero, List.set_cons_succ])
      refine wpAnyH_take (i := 8) (oi := ({ dst := some 12, op := Go.Op.pick (Go.Operand.tmp 6) (Go.Operand.tmp 11) (Go.Operand.const (Go.Value.bool false)), type := 4, pos := "frame.go:39", after := #[{ on := 2, ground := Go.Ground.data }, { on := 7, ground := Go.Ground.data }], guard := none } : Go.Oper)) (v := ?v28) rfl (by kernel_rfl) (by kernel_rfl) (by kernel_rfl) (fun _ _ _ h => h) (Or.inl ⟨by rfl, ?hy28⟩) (by assumption) ?rest28
      case hy28 => (intro w hSw; (try dsimp only at hSw); go_simp; (try with_reducible rfl))
      (try simp only [Act.put, List.getElem_toArray, List.getElem_cons_zero, List.getElem_cons_succ, List.setIfInBounds_toArray, List.set_cons_zero, List.set_cons_succ])
      refine wpAnyH_take (i := 9) (oi := ({ dst := some 13, op := Go.Op.move (Go.Operand.tmp 12), type := 4, pos := "frame.go:39", after := #[{ on := 8, ground := Go.Ground.data }, { on := 2, ground := Go.Ground.chain }], guard := none } : Go.Oper)) (v := ?v29) rfl (by kernel_rfl) (by kernel_rfl) (by kernel_rfl) (fun _ _ _ h => h) (Or.inl ⟨by rfl, ?hy29⟩) (by assumption) ?rest29
      case hy29 => (intro w hSw; (try dsimp only at hSw); go_simp; (try with_reducible rfl))
      (try simp only [Act.put, List.getElem_toArray, List.getElem_cons_zero, List.getElem_cons_succ, List.setIfInBounds_toArray, List.set_cons_zero, List.set_cons_succ])
      refine wpAnyH_take (i := 10) (oi := ({ dst := some 14, op := Go.Op.load 29 (Go.Operand.tmp 1), type := 29, pos := "frame.go:39", after := #[{ on := 9, ground := Go.Ground.guard }], guard := some (9, true) } : Go.Oper)) (v := undef) rfl (by kernel_rfl) (by kernel_rfl) (by kernel_rfl) (fun _ _ _ h => h) (Or.inr ⟨by rfl, rfl⟩) (by assumption) ?_
      (try simp only [Act.put, List.getElem_toArray, List.getElem_cons_zero, List.getElem_cons_succ, List.setIfInBounds_toArray, List.set_cons_zero, List.set_cons_succ])
      refine wpAnyH_take (i := 11) (oi := ({ dst := some 15, op := Go.Op.slice 29 (Go.Operand.tmp 14) none (some (Go.Operand.const (Go.Value.int Go.IntKind.i64 4))) none, type := 29, pos := "frame.go:39", after := #[{ on := 10, ground := Go.Ground.data }, { on := 9, ground := Go.Ground.guard }], guard := some (9, true) } : Go.Oper)) (v := undef) rfl (by kernel_rfl) (by kernel_rfl) (by kernel_rfl) (fun _ _ _ h => h) (Or.inr ⟨by rfl, rfl⟩) (by assumption) ?_
      (try simp only [Act.put, List.getElem_toArray, List.getElem_cons_zero, List.getElem_cons_succ, List.setIfInBounds_toArray, List.set_cons_zero, List.set_cons_succ])
      refine wpAnyH_take (i := 12) (oi := ({ dst := some 16, op := Go.Op.load 29 (Go.Operand.tmp 1), type := 29, pos := "frame.go:39", after := #[{ on := 9, ground := Go.Ground.guard }], guard := some (9, true) } : Go.Oper)) (v := undef) rfl (by kernel_rfl) (by kernel_rfl) (by kernel_rfl) (fun _ _ _ h => h) (Or.inr ⟨by rfl, rfl⟩) (by assumption) ?_
      (try simp only [Act.put, List.getElem_toArray, List.getElem_cons_zero, List.getElem_cons_succ, List.setIfInBounds_toArray, List.set_cons_zero, List.set_cons_succ])
      refine wpAnyH_take (i := 13) (oi := ({ dst := some 17, op := Go.Op.move (Go.Operand.tmp 0), type := 3, pos := "frame.go:39", after := #[{ on := 9, ground := Go.Ground.guard }], guard := some (9, true) } : Go.Oper)) (v := undef) rfl (by kernel_rfl) (by kernel_rfl) (by kernel_rfl) (fun _ _ _ h => h) (Or.inr ⟨by rfl, rfl⟩) (by assumption) ?_
      (try simp only [Act.put, List.getElem_toArray, List.getElem_cons_zero, List.getElem_cons_succ, List.setIfInBounds_toArray, List.set_cons_zero, List.set_cons_succ])
      refine wpAnyH_take (i := 14) (oi := ({ dst := some 18, op := Go.Op.binOp Go.BinOp.add 3 (Go.Operand.const (Go.Value.int Go.IntKind.i64 8)) (Go.Operand.tmp 17) 3, type := 3, pos := "frame.go:39", after := #[{ on := 13, ground := Go.Ground.data }, { on := 9, ground := Go.Ground.guard }], guard := some (9, true) } : Go.Oper)) (v := undef) rfl (by kernel_rfl) (by kernel_rfl) (by kernel_rfl) (fun _ _ _ h => h) (Or.inr ⟨by rfl, rfl⟩) (by assumption) ?_
      (try simp only [Act.put, List.getElem_toArray, List.getElem_cons_zero, List.getElem_cons_succ, List.setIfInBounds_toArray, List.set_cons_zero, List.set_cons_succ])
      refine wpAnyH_take (i := 15) (oi := ({ dst := some 19, op := Go.Op.slice 29 (Go.Operand.tmp 16) (some (Go.Operand.const (Go.Value.int Go.IntKind.i64 8))) (some (Go.Operand.tmp 18)) none, type := 29, pos := "frame.go:39", after := #[{ on := 12, ground := Go.Ground.data }, { on := 14, ground := Go.Ground.data }, { on := 9, ground := Go.Ground.guard }], guard := some (9, true) } : Go.Oper)) (v := undef) rfl (by kernel_rfl) (by kernel_rfl) (by kernel_rfl) (fun _ _ _ h => h) (Or.inr ⟨by rfl, rfl⟩) (by assumption) ?_
      (try simp only [Act.put, List.getElem_toArray, List.getElem_cons_zero, List.getElem_cons_succ, List.setIfInBounds_toArray, List.set_cons_zero, List.set_cons_succ])
      refine wpAnyH_take (i := 16) (oi := ({ dst := some 20, op := Go.Op.buildSlice 70 2 #[(0, Go.Operand.tmp 15), (1, Go.Operand.tmp 19)], type := 70, pos := "frame.go:39", after := #[{ on := 11, ground := Go.Ground.data }, { on := 15, ground := Go.Ground.data }, { on := 9, ground := Go.Ground.guard }], guard := some (9, true) } : Go.Oper)) (v := undef) rfl (by kernel_rfl) (by kernel_rfl) (by kernel_rfl) (fun _ _ _ h => h) (Or.inr ⟨by rfl, rfl⟩) (by assumption) ?_
      (try simp only [Act.put, List.getElem_toArray, List.getElem_cons_zero, List.getElem_cons_succ, List.setIfInBounds_toArray, List.set_cons_zero, List.set_cons_succ])
      refine wpAnyH_take (i := 17) (oi := ({ dst := some 21, op := Go.Op.call { callee := Go.Callee.value (Go.Operand.func 57), args := #[Go.Operand.tmp 20], argTypes := #[70] }, type := 60, pos := "frame.go:39", after := #[{ on := 16, ground := Go.Ground.data }, { on := 9, ground := Go.Ground.chain }, { on := 9, ground := Go.Ground.guard }], guard := some (9, true) } : Go.Oper)) (v := undef) rfl (by kernel_rfl) (by kernel_rfl) (by kernel_rfl) (fun _ _ _ h => h) (Or.inr ⟨by rfl, rfl⟩) (by assumption) ?_
      (try simp only [Act.put, List.getElem_toArray, List.getElem_cons_zero, List.getElem_cons_succ, List.setIfInBounds_toArray, List.set_cons_zero, List.set_cons_succ])
      refine wpAnyH_take (i := 18) (oi := ({ dst := some 22, op := Go.Op.load 29 (Go.Operand.tmp 1), type := 29, pos := "frame.go:39", after := #[{ on := 9, ground := Go.Ground.guard }], guard := some (9, true) } : Go.Oper)) (v := undef) rfl (by kernel_rfl) (by kernel_rfl) (by kernel_rfl) (fun _ _ _ h => h) (Or.inr ⟨by rfl, rfl⟩) (by assumption) ?_
      (try simp only [Act.put, List.getElem_toArray, List.getElem_cons_zero, List.getElem_cons_succ, List.setIfInBounds_toArray, List.set_cons_zero, List.set_cons_succ])
      refine wpAnyH_take (i := 19) (oi := ({ dst := some 23, op := Go.Op.slice 29 (Go.Operand.tmp 22) (some (Go.Operand.const (Go.Value.int Go.IntKind.i64 4))) none none, type := 29, pos := "frame.go:39", after := #[{ on := 18, ground := Go.Ground.data }, { on := 9, ground := Go.Ground.guard }], guard := some (9, true) } : Go.Oper)) (v := undef) rfl (by kernel_rfl) (by kernel_rfl) (by kernel_rfl) (fun _ _ _ h => h) (Or.inr ⟨by rfl, rfl⟩) (by assumption) ?_
      (try simp only [Act.put, List.getElem_toArray, List.getElem_cons_zero, List.getElem_cons_succ, List.setIfInBounds_toArray, List.set_cons_zero, List.set_cons_succ])
      refine wpAnyH_take (i := 20) (oi := ({ dst := some 24, op := Go.Op.call { callee := Go.Callee.value (Go.Operand.func 74), args := #[Go.Operand.tmp 23], argTypes := #[29] }, type := 60, pos := "frame.go:39", after := #[{ on := 19, ground := Go.Ground.data }, { on := 17, ground := Go.Ground.chain }, { on := 9, ground := Go.Ground.guard }], guard := some (9, true) } : Go.Oper)) (v := undef) rfl (by kernel_rfl) (by kernel_rfl) (by kernel_rfl) (fun _ _ _ h => h) (Or.inr ⟨by rfl, rfl⟩) (by assumption) ?_
      (try simp only [Act.put, List.getElem_toArray, List.getElem_cons_zero, List.getElem_cons_succ, List.setIfInBounds_toArray, List.set_cons_zero, List.set_cons_succ])
      refine wpAnyH_take (i := 21) (oi := ({ dst := some 25, op := Go.Op.binOp Go.BinOp.eql 60 (Go.Operand.tmp 21) (Go.Operand.tmp 24) 60, type := 4, pos := "frame.go:39", after := #[{ on := 17, ground := Go.Ground.data }, { on := 20, ground := Go.Ground.data }, { on := 9, ground := Go.Ground.guard }], guard := some (9, true) } : Go.Oper)) (v := undef) rfl (by kernel_rfl) (by kernel_rfl) (by kernel_rfl) (fun _ _ _ h => h) (Or.inr ⟨by rfl, rfl⟩) (by assumption) ?_
      (try simp only [Act.put, List.getElem_toArray, List.getElem_cons_zero, List.getElem_cons_succ, List.setIfInBounds_toArray, List.set_cons_zero, List.set_cons_succ])
      refine wpAnyH_take (i := 22) (oi := ({ dst := some 26, op := Go.Op.pick (Go.Operand.tmp 13) (Go.Operand.tmp 25) (Go.Operand.const (Go.Value.bool false)), type := 4, pos := "frame.go:39", after := #[{ on := 9, ground := Go.Ground.data }, { on := 21, ground := Go.Ground.data }], guard := none } : Go.Oper)) (v := ?v30) rfl (by kernel_rfl) (by kernel_rfl) (by kernel_rfl) (fun _ _ _ h => h) (Or.inl ⟨by rfl, ?hy30⟩) (by assumption) ?rest30
      case hy30 => (intro w hSw; (try dsimp only at hSw); go_simp; (try with_reducible rfl))
      (try simp only [Act.put, List.getElem_toArray, List.getElem_cons_zero, List.getElem_cons_succ, List.setIfInBounds_toArray, List.set_cons_zero, List.set_cons_succ])
      refine wpAnyH_take (i := 23) (oi := ({ dst := some 3, op := Go.Op.assign (Go.Operand.tmp 26), type := 4, pos := "frame.go:39", after := #[{ on := 22, ground := Go.Ground.data }, { on := 20, ground := Go.Ground.chain }, { on := 0, ground := Go.Ground.phase }, { on := 1, ground := Go.Ground.phase }, { on := 2, ground := Go.Ground.phase }, { on := 3, ground := Go.Ground.phase }, { on := 4, ground := Go.Ground.phase }, { on := 5, ground := Go.Ground.phase }, { on := 6, ground := Go.Ground.phase }, { on := 7, ground := Go.Ground.phase }, { on := 8, ground := Go.Ground.phase }, { on := 9, ground := Go.Ground.phase }, { on := 10, ground := Go.Ground.phase }, { on := 11, ground := Go.Ground.phase }, { on := 12, ground := Go.Ground.phase }, { on := 13, ground := Go.Ground.phase }, { on := 14, ground := Go.Ground.phase }, { on := 15, ground := Go.Ground.phase }, { on := 16, ground := Go.Ground.phase }, { on := 17, ground := Go.Ground.phase }, { on := 18, ground := Go.Ground.phase }, { on := 19, ground := Go.Ground.phase }, { on := 20, ground := Go.Ground.phase }, { on := 21, ground := Go.Ground.phase }, { on := 22, ground := Go.Ground.phase }], guard := none } : Go.Oper)) (v := ?v31) rfl (by kernel_rfl) (by kernel_rfl) (by kernel_rfl) (fun _ _ _ h => h) (Or.inl ⟨by rfl, ?hy31⟩) (by assumption) ?rest31
      case hy31 => (intro w hSw; (try dsimp only at hSw); go_simp; (try with_reducible rfl))
      (try simp only [Act.put, List.getElem_toArray, List.getElem_cons_zero, List.getElem_cons_succ, List.setIfInBounds_toArray, List.set_cons_zero, List.set_cons_succ])
      refine wpAnyH_done (by kernel_rfl) ?_ _
      go_wp2
      go_ret
      exact ⟨ret_bool hwf.out.symm, (by with_reducible (repeat (first | exact Ext.rfl_ _ | assumption | refine Ext.drew ?_ | refine Ext.drewN ?_ _ | refine Ext.alloc ?_ _ | refine Ext.trans ?_ (by assumption))))⟩
  · have h1f : mayF n = false := by simpa using h1
    have hwf : Hid (wholeF x n = false) := Lib.hid (by
      unfold wholeF
      rw [h1f]
      simp)
    have H1 := Lib.hid h1f
    clear hg hx hxl h1 h1f
    go_enter Try.func85, Try.ntmps85
    go_wp2
    refine wp_region_held_drew (S := (fun w' => w'.cell? ⟨g, 0, none⟩ = some (.slice (some ⟨b, o, none⟩) m c))) (by kernel_rfl) (by (try dsimp only); exact Ext.keeps (show Ext w _ from (by with_reducible (repeat (first | exact Ext.rfl_ _ | assumption | refine Ext.drew ?_ | refine Ext.drewN ?_ _ | refine Ext.alloc ?_ _ | refine Ext.trans ?_ (by assumption))))) _ _ _ HG.out) (fun hHeld => ?_)
    refine wpAnyH_take (i := 0) (oi := ({ dst := some 4, op := Go.Op.move (Go.Operand.tmp 0), type := 3, pos := "frame.go:39", after := #[], guard := none } : Go.Oper)) (v := ?v32) rfl (by kernel_rfl) (by kernel_rfl) (by kernel_rfl) (fun _ _ _ h => h) (Or.inl ⟨by rfl, ?hy32⟩) (by assumption) ?rest32
    case hy32 => (intro w hSw; (try dsimp only at hSw); go_simp; (try with_reducible rfl))
    (try simp only [Act.put, List.getElem_toArray, List.getElem_cons_zero, List.getElem_cons_succ, List.setIfInBounds_toArray, List.set_cons_zero, List.set_cons_succ])
    refine wpAnyH_ready (rs := [1]) (by kernel_rfl) (by simp) ?_
    refine AllReadyH.cons (o := ({ dst := some 5, op := Go.Op.call { callee := Go.Callee.value (Go.Operand.func 55), args := #[Go.Operand.tmp 4], argTypes := #[3] }, type := 4, pos := "frame.go:39", after := #[{ on := 0, ground := Go.Ground.data }], guard := none } : Go.Oper)) rfl (fun K hK => ?_) AllReadyH.nil
    go_simp
    (go_at_call 55; refine (fmay_any n _).mono ?_; rintro e w1 ⟨rfl, rfl⟩; rw [H1.out])
    (try (go_wp2_with fail))
    refine hK.out _ _ (by (try dsimp only); exact Ext.keeps (show Ext w _ from (by with_reducible (repeat (first | exact Ext.rfl_ _ | assumption | refine Ext.drew ?_ | refine Ext.drewN ?_ _ | refine Ext.alloc ?_ _ | refine Ext.trans ?_ (by assumption))))) _ _ _ HG.out) (fun hHeld => ?_)
    clear hK K
    (try simp only [Act.put, List.getElem_toArray, List.getElem_cons_zero, List.getElem_cons_succ, List.setIfInBounds_toArray, List.set_cons_zero, List.set_cons_succ])
    refine wpAnyH_take (i := 2) (oi := ({ dst := some 6, op := Go.Op.move (Go.Operand.tmp 5), type := 4, pos := "frame.go:39", after := #[{ on := 1, ground := Go.Ground.data }, { on := 1, ground := Go.Ground.chain }], guard := none } : Go.Oper)) (v := ?v33) rfl (by kernel_rfl) (by kernel_rfl) (by kernel_rfl) (fun _ _ _ h => h) (Or.inl ⟨by rfl, ?hy33⟩) (by assumption) ?rest33
    case hy33 => (intro w hSw; (try dsimp only at hSw); go_simp; (try with_reducible rfl))
    (try simp only [Act.put, List.getElem_toArray, List.getElem_cons_zero, List.getElem_cons_succ, List.setIfInBounds_toArray, List.set_cons_zero, List.set_cons_succ])
    refine wpAnyH_take (i := 3) (oi := ({ dst := some 7, op := Go.Op.move (Go.Operand.tmp 0), type := 3, pos := "frame.go:39", after := #[{ on := 2, ground := Go.Ground.guard }], guard := some (2, true) } : Go.Oper)) (v := undef) rfl (by kernel_rfl) (by kernel_rfl) (by kernel_rfl) (fun _ _ _ h => h) (Or.inr ⟨by rfl, rfl⟩) (by assumption) ?_
    (try simp only [Act.put, List.getElem_toArray, List.getElem_cons_zero, List.getElem_cons_succ, List.setIfInBounds_toArray, List.set_cons_zero, List.set_cons_succ])
    refine wpAnyH_take (i := 4) (oi := ({ dst := some 8, op := Go.Op.load 29 (Go.Operand.tmp 1), type := 29, pos := "frame.go:39", after := #[{ on := 2, ground := Go.Ground.guard }], guard := some (2, true) } : Go.Oper)) (v := undef) rfl (by kernel_rfl) (by kernel_rfl) (by kernel_rfl) (fun _ _ _ h => h) (Or.inr ⟨by rfl, rfl⟩) (by assumption) ?_
    (try simp only [Act.put, List.getElem_toArray, List.getElem_cons_zero, List.getElem_cons_succ, List.setIfInBounds_toArray, List.set_cons_zero, List.set_cons_succ])
    refine wpAnyH_take (i := 5) (oi := ({ dst := some 9, op := Go.Op.call { callee := Go.Callee.builtin Go.Builtin.len, args := #[Go.Operand.tmp 8], argTypes := #[29] }, type := 3, pos := "frame.go:39", after := #[{ on := 4, ground := Go.Ground.data }, { on := 2, ground := Go.Ground.guard }], guard := some (2, true) } : Go.Oper)) (v := undef) rfl (by kernel_rfl) (by kernel_rfl) (by kernel_rfl) (fun _ _ _ h => h) (Or.inr ⟨by rfl, rfl⟩) (by assumption) ?_
    (try simp only [Act.put, List.getElem_toArray, List.getElem_cons_zero, List.getElem_cons_succ, List.setIfInBounds_toArray, List.set_cons_zero, List.set_cons_succ])
    refine wpAnyH_take (i := 6) (oi := ({ dst := some 10, op := Go.Op.binOp Go.BinOp.sub 3 (Go.Operand.tmp 9) (Go.Operand.const (Go.Value.int Go.IntKind.i64 8)) 3, type := 3, pos := "frame.go:39", after := #[{ on := 5, ground := Go.Ground.data }, { on := 2, ground := Go.Ground.guard }], guard := some (2, true) } : Go.Oper)) (v := undef) rfl (by kernel_rfl) (by kernel_rfl) (by kernel_rfl) (fun _ _ _ h => h) (Or.inr ⟨by rfl, rfl⟩) (by assumption) ?_
    (try simp only [Act.put, List.getElem_toArray, List.getElem_cons_zero, List.getElem_cons_succ, List.setIfInBounds_toArray, List.set_cons_zero, List.set_cons_succ])
    refine wpAnyH_take (i := 7) (oi := ({ dst := some 11, op := Go.Op.binOp Go.BinOp.leq 3 (Go.Operand.tmp 7) (Go.Operand.tmp 10) 3, type := 4, pos := "frame.go:39", after := #[{ on := 3, ground := Go.Ground.data }, { on := 6, ground := Go.Ground.data }, { on := 2, ground := Go.Ground.guard }], guard := some (2, true) } : Go.Oper)) (v := undef) rfl (by kernel_rfl) (by kernel_rfl) (by kernel_rfl) (fun _ _ _ h => h) (Or.inr ⟨by rfl, rfl⟩) (by assumption) ?_
    (try simp only [Act.put, List.getElem_toArray, List.getElem_cons_zero, List.getElem_cons_succ, List.setIfInBounds_toArray, List.set_cons_zero, List.set_cons_succ])
    refine wpAnyH_take (i := 8) (oi := ({ dst := some 12, op := Go.Op.pick (Go.Operand.tmp 6) (Go.Operand.tmp 11) (Go.Operand.const (Go.Value.bool false)), type := 4, pos := "frame.go:39", after := #[{ on := 2, ground := Go.Ground.data }, { on := 7, ground := Go.Ground.data }], guard := none } : Go.Oper)) (v := ?v34) rfl (by kernel_rfl) (by kernel_rfl) (by kernel_rfl) (fun _ _ _ h => h) (Or.inl ⟨by rfl, ?hy34⟩) (by assumption) ?rest34
    case hy34 => (intro w hSw; (try dsimp only at hSw); go_simp; (try with_reducible rfl))
    (try simp only [Act.put, List.getElem_toArray, List.getElem_cons_zero, List.getElem_cons_succ, List.setIfInBounds_toArray, List.set_cons_zero, List.set_cons_succ])
    refine wpAnyH_take (i := 9) (oi := ({ dst := some 13, op := Go.Op.move (Go.Operand.tmp 12), type := 4, pos := "frame.go:39", after := #[{ on := 8, ground := Go.Ground.data }, { on := 2, ground := Go.Ground.chain }], guard := none } : Go.Oper)) (v := ?v35) rfl (by kernel_rfl) (by kernel_rfl) (by kernel_rfl) (fun _ _ _ h => h) (Or.inl ⟨by rfl, ?hy35⟩) (by assumption) ?rest35
    case hy35 => (intro w hSw; (try dsimp only at hSw); go_simp; (try with_reducible rfl))
    (try simp only [Act.put, List.getElem_toArray, List.getElem_cons_zero, List.getElem_cons_succ, List.setIfInBounds_toArray, List.set_cons_zero, List.set_cons_succ])
    refine wpAnyH_take (i := 10) (oi := ({ dst := some 14, op := Go.Op.load 29 (Go.Operand.tmp 1), type := 29, pos := "frame.go:39", after := #[{ on := 9, ground := Go.Ground.guard }], guard := some (9, true) } : Go.Oper)) (v := undef) rfl (by kernel_rfl) (by kernel_rfl) (by kernel_rfl) (fun _ _ _ h => h) (Or.inr ⟨by rfl, rfl⟩) (by assumption) ?_
    (try simp only [Act.put, List.getElem_toArray, List.getElem_cons_zero, List.getElem_cons_succ, List.setIfInBounds_toArray, List.set_cons_zero, List.set_cons_succ])
    refine wpAnyH_take (i := 11) (oi := ({ dst := some 15, op := Go.Op.slice 29 (Go.Operand.tmp 14) none (some (Go.Operand.const (Go.Value.int Go.IntKind.i64 4))) none, type := 29, pos := "frame.go:39", after := #[{ on := 10, ground := Go.Ground.data }, { on := 9, ground := Go.Ground.guard }], guard := some (9, true) } : Go.Oper)) (v := undef) rfl (by kernel_rfl) (by kernel_rfl) (by kernel_rfl) (fun _ _ _ h => h) (Or.inr ⟨by rfl, rfl⟩) (by assumption) ?_
    (try simp only [Act.put, List.getElem_toArray, List.getElem_cons_zero, List.getElem_cons_succ, List.setIfInBounds_toArray, List.set_cons_zero, List.set_cons_succ])
    refine wpAnyH_take (i := 12) (oi := ({ dst := some 16, op := Go.Op.load 29 (Go.Operand.tmp 1), type := 29, pos := "frame.go:39", after := #[{ on := 9, ground := Go.Ground.guard }], guard := some (9, true) } : Go.Oper)) (v := undef) rfl (by kernel_rfl) (by kernel_rfl) (by kernel_rfl) (fun _ _ _ h => h) (Or.inr ⟨by rfl, rfl⟩) (by assumption) ?_
    (try simp only [Act.put, List.getElem_toArray, List.getElem_cons_zero, List.getElem_cons_succ, List.setIfInBounds_toArray, List.set_cons_zero, List.set_cons_succ])
    refine wpAnyH_take (i := 13) (oi := ({ dst := some 17, op := Go.Op.move (Go.Operand.tmp 0), type := 3, pos := "frame.go:39", after := #[{ on := 9, ground := Go.Ground.guard }], guard := some (9, true) } : Go.Oper)) (v := undef) rfl (by kernel_rfl) (by kernel_rfl) (by kernel_rfl) (fun _ _ _ h => h) (Or.inr ⟨by rfl, rfl⟩) (by assumption) ?_
    (try simp only [Act.put, List.getElem_toArray, List.getElem_cons_zero, List.getElem_cons_succ, List.setIfInBounds_toArray, List.set_cons_zero, List.set_cons_succ])
    refine wpAnyH_take (i := 14) (oi := ({ dst := some 18, op := Go.Op.binOp Go.BinOp.add 3 (Go.Operand.const (Go.Value.int Go.IntKind.i64 8)) (Go.Operand.tmp 17) 3, type := 3, pos := "frame.go:39", after := #[{ on := 13, ground := Go.Ground.data }, { on := 9, ground := Go.Ground.guard }], guard := some (9, true) } : Go.Oper)) (v := undef) rfl (by kernel_rfl) (by kernel_rfl) (by kernel_rfl) (fun _ _ _ h => h) (Or.inr ⟨by rfl, rfl⟩) (by assumption) ?_
    (try simp only [Act.put, List.getElem_toArray, List.getElem_cons_zero, List.getElem_cons_succ, List.setIfInBounds_toArray, List.set_cons_zero, List.set_cons_succ])
    refine wpAnyH_take (i := 15) (oi := ({ dst := some 19, op := Go.Op.slice 29 (Go.Operand.tmp 16) (some (Go.Operand.const (Go.Value.int Go.IntKind.i64 8))) (some (Go.Operand.tmp 18)) none, type := 29, pos := "frame.go:39", after := #[{ on := 12, ground := Go.Ground.data }, { on := 14, ground := Go.Ground.data }, { on := 9, ground := Go.Ground.guard }], guard := some (9, true) } : Go.Oper)) (v := undef) rfl (by kernel_rfl) (by kernel_rfl) (by kernel_rfl) (fun _ _ _ h => h) (Or.inr ⟨by rfl, rfl⟩) (by assumption) ?_
    (try simp only [Act.put, List.getElem_toArray, List.getElem_cons_zero, List.getElem_cons_succ, List.setIfInBounds_toArray, List.set_cons_zero, List.set_cons_succ])
    refine wpAnyH_take (i := 16) (oi := ({ dst := some 20, op := Go.Op.buildSlice 70 2 #[(0, Go.Operand.tmp 15), (1, Go.Operand.tmp 19)], type := 70, pos := "frame.go:39", after := #[{ on := 11, ground := Go.Ground.data }, { on := 15, ground := Go.Ground.data }, { on := 9, ground := Go.Ground.guard }], guard := some (9, true) } : Go.Oper)) (v := undef) rfl (by kernel_rfl) (by kernel_rfl) (by kernel_rfl) (fun _ _ _ h => h) (Or.inr ⟨by rfl, rfl⟩) (by assumption) ?_
    (try simp only [Act.put, List.getElem_toArray, List.getElem_cons_zero, List.getElem_cons_succ, List.setIfInBounds_toArray, List.set_cons_zero, List.set_cons_succ])
    refine wpAnyH_take (i := 17) (oi := ({ dst := some 21, op := Go.Op.call { callee := Go.Callee.value (Go.Operand.func 57), args := #[Go.Operand.tmp 20], argTypes := #[70] }, type := 60, pos := "frame.go:39", after := #[{ on := 16, ground := Go.Ground.data }, { on := 9, ground := Go.Ground.chain }, { on := 9, ground := Go.Ground.guard }], guard := some (9, true) } : Go.Oper)) (v := undef) rfl (by kernel_rfl) (by kernel_rfl) (by kernel_rfl) (fun _ _ _ h => h) (Or.inr ⟨by rfl, rfl⟩) (by assumption) ?_
    (try simp only [Act.put, List.getElem_toArray, List.getElem_cons_zero, List.getElem_cons_succ, List.setIfInBounds_toArray, List.set_cons_zero, List.set_cons_succ])
    refine wpAnyH_take (i := 18) (oi := ({ dst := some 22, op := Go.Op.load 29 (Go.Operand.tmp 1), type := 29, pos := "frame.go:39", after := #[{ on := 9, ground := Go.Ground.guard }], guard := some (9, true) } : Go.Oper)) (v := undef) rfl (by kernel_rfl) (by kernel_rfl) (by kernel_rfl) (fun _ _ _ h => h) (Or.inr ⟨by rfl, rfl⟩) (by assumption) ?_
    (try simp only [Act.put, List.getElem_toArray, List.getElem_cons_zero, List.getElem_cons_succ, List.setIfInBounds_toArray, List.set_cons_zero, List.set_cons_succ])
    refine wpAnyH_take (i := 19) (oi := ({ dst := some 23, op := Go.Op.slice 29 (Go.Operand.tmp 22) (some (Go.Operand.const (Go.Value.int Go.IntKind.i64 4))) none none, type := 29, pos := "frame.go:39", after := #[{ on := 18, ground := Go.Ground.data }, { on := 9, ground := Go.Ground.guard }], guard := some (9, true) } : Go.Oper)) (v := undef) rfl (by kernel_rfl) (by kernel_rfl) (by kernel_rfl) (fun _ _ _ h => h) (Or.inr ⟨by rfl, rfl⟩) (by assumption) ?_
    (try simp only [Act.put, List.getElem_toArray, List.getElem_cons_zero, List.getElem_cons_succ, List.setIfInBounds_toArray, List.set_cons_zero, List.set_cons_succ])
    refine wpAnyH_take (i := 20) (oi := ({ dst := some 24, op := Go.Op.call { callee := Go.Callee.value (Go.Operand.func 74), args := #[Go.Operand.tmp 23], argTypes := #[29] }, type := 60, pos := "frame.go:39", after := #[{ on := 19, ground := Go.Ground.data }, { on := 17, ground := Go.Ground.chain }, { on := 9, ground := Go.Ground.guard }], guard := some (9, true) } : Go.Oper)) (v := undef) rfl (by kernel_rfl) (by kernel_rfl) (by kernel_rfl) (fun _ _ _ h => h) (Or.inr ⟨by rfl, rfl⟩) (by assumption) ?_
    (try simp only [Act.put, List.getElem_toArray, List.getElem_cons_zero, List.getElem_cons_succ, List.setIfInBounds_toArray, List.set_cons_zero, List.set_cons_succ])
    refine wpAnyH_take (i := 21) (oi := ({ dst := some 25, op := Go.Op.binOp Go.BinOp.eql 60 (Go.Operand.tmp 21) (Go.Operand.tmp 24) 60, type := 4, pos := "frame.go:39", after := #[{ on := 17, ground := Go.Ground.data }, { on := 20, ground := Go.Ground.data }, { on := 9, ground := Go.Ground.guard }], guard := some (9, true) } : Go.Oper)) (v := undef) rfl (by kernel_rfl) (by kernel_rfl) (by kernel_rfl) (fun _ _ _ h => h) (Or.inr ⟨by rfl, rfl⟩) (by assumption) ?_
    (try simp only [Act.put, List.getElem_toArray, List.getElem_cons_zero, List.getElem_cons_succ, List.setIfInBounds_toArray, List.set_cons_zero, List.set_cons_succ])
    refine wpAnyH_take (i := 22) (oi := ({ dst := some 26, op := Go.Op.pick (Go.Operand.tmp 13) (Go.Operand.tmp 25) (Go.Operand.const (Go.Value.bool false)), type := 4, pos := "frame.go:39", after := #[{ on := 9, ground := Go.Ground.data }, { on := 21, ground := Go.Ground.data }], guard := none } : Go.Oper)) (v := ?v36) rfl (by kernel_rfl) (by kernel_rfl) (by kernel_rfl) (fun _ _ _ h => h) (Or.inl ⟨by rfl, ?hy36⟩) (by assumption) ?rest36
    case hy36 => (intro w hSw; (try dsimp only at hSw); go_simp; (try with_reducible rfl))
    (try simp only [Act.put, List.getElem_toArray, List.getElem_cons_zero, List.getElem_cons_succ, List.setIfInBounds_toArray, List.set_cons_zero, List.set_cons_succ])
    refine wpAnyH_take (i := 23) (oi := ({ dst := some 3, op := Go.Op.assign (Go.Operand.tmp 26), type := 4, pos := "frame.go:39", after := #[{ on := 22, ground := Go.Ground.data }, { on := 20, ground := Go.Ground.chain }, { on := 0, ground := Go.Ground.phase }, { on := 1, ground := Go.Ground.phase }, { on := 2, ground := Go.Ground.phase }, { on := 3, ground := Go.Ground.phase }, { on := 4, ground := Go.Ground.phase }, { on := 5, ground := Go.Ground.phase }, { on := 6, ground := Go.Ground.phase }, { on := 7, ground := Go.Ground.phase }, { on := 8, ground := Go.Ground.phase }, { on := 9, ground := Go.Ground.phase }, { on := 10, ground := Go.Ground.phase }, { on := 11, ground := Go.Ground.phase }, { on := 12, ground := Go.Ground.phase }, { on := 13, ground := Go.Ground.phase }, { on := 14, ground := Go.Ground.phase }, { on := 15, ground := Go.Ground.phase }, { on := 16, ground := Go.Ground.phase }, { on := 17, ground := Go.Ground.phase }, { on := 18, ground := Go.Ground.phase }, { on := 19, ground := Go.Ground.phase }, { on := 20, ground := Go.Ground.phase }, { on := 21, ground := Go.Ground.phase }, { on := 22, ground := Go.Ground.phase }], guard := none } : Go.Oper)) (v := ?v37) rfl (by kernel_rfl) (by kernel_rfl) (by kernel_rfl) (fun _ _ _ h => h) (Or.inl ⟨by rfl, ?hy37⟩) (by assumption) ?rest37
    case hy37 => (intro w hSw; (try dsimp only at hSw); go_simp; (try with_reducible rfl))
    (try simp only [Act.put, List.getElem_toArray, List.getElem_cons_zero, List.getElem_cons_succ, List.setIfInBounds_toArray, List.set_cons_zero, List.set_cons_succ])
    refine wpAnyH_done (by kernel_rfl) ?_ _
    go_wp2
    go_ret
    exact ⟨ret_bool hwf.out.symm, (by with_reducible (repeat (first | exact Ext.rfl_ _ | assumption | refine Ext.drew ?_ | refine Ext.drewN ?_ _ | refine Ext.alloc ?_ _ | refine Ext.trans ?_ (by assumption))))⟩

set_option maxRecDepth 100000 in
set_option maxHeartbeats 4000000 in
theorem first_any (A : Option Addr) (m c : Nat) (x : Bs) (w : World) (hx : Rd w A m x) (hmc : m ≤ c) (hm : m ≤ B40) :
    Calls Try.prog 65 #[.slice A m c] w fun e w' => ∃ A' n' c', e = .returned (.tuple #[.slice A' n' c', .bool (isF x)]) ∧ (isF x = true → Rd w' A' n' (plF x) ∧ n' ≤ c') ∧ Ext w w' := by
  have hxl := hx.1
  have hmb := hm
  unfold B40 at hm
  have HX := Lib.hid hx
  have hbox := heap_alloc_new w (.cells #[.slice A m c] 29)
  have HB := Lib.hid (box1 hbox (Ext.rfl_ _))
  clear hbox
  by_cases h8 : (m : Int) < 8
  · have hF : isF x = false := by
      rw [isF_whole, decide_eq_false (by omega : ¬ 8 ≤ x.length), Bool.false_and]
    rw [hF]
    have hd : decide ((m : Int) < 8) = true := decide_eq_true h8
    clear hx
    go_enter Try.func65, Try.ntmps65
    go_wp2_with fail
    go_ret2
    exact ⟨_, _, _, rfl, fun h => absurd h (by decide), (by with_reducible (repeat (first | exact Ext.rfl_ _ | assumption | refine Ext.drew ?_ | refine Ext.drewN ?_ _ | refine Ext.alloc ?_ _ | refine Ext.trans ?_ (by assumption))))⟩
  · have h8' : 8 ≤ m := by omega
    have hd : decide ((m : Int) < 8) = false := decide_eq_false h8
    obtain ⟨b, o, rfl, _⟩ := hx.2 (by omega)
    obtain ⟨n, hn⟩ : ∃ n, n = nF x := ⟨_, rfl⟩
    have hn32 : n < 4294967296 := by rw [hn]; exact un4_lt _
    have hwr : wrap64 (n : Int) = (n : Int) := w64 (by omega) (by omega)
    have hF : isF x = wholeF x n := by
      rw [isF_whole, decide_eq_true (by omega : 8 ≤ x.length), Bool.true_and, hn]
    have hu : un4 (x.take 4) = n := by rw [hn]; rfl
    have HU := Lib.hid hu
    have HN := Lib.hid hn
    rw [hF]
    clear hx hu hn
    go_enter Try.func65, Try.ntmps65
    go_wp2_with (first | (go_at_call 74; refine (funword_any b o m c x _ (HX.out.ext (by with_reducible (repeat (first | exact Ext.rfl_ _ | assumption | refine Ext.drew ?_ | refine Ext.drewN ?_ _ | refine Ext.alloc ?_ _ | refine Ext.trans ?_ (by assumption))))) (by omega)).mono ?_; rintro e w1 ⟨rfl, hw1⟩; rw [HU.out]))
    refine (first1_any w.heap.size b o m c n x _ (HX.out.ext (by with_reducible (repeat (first | exact Ext.rfl_ _ | assumption | refine Ext.drew ?_ | refine Ext.drewN ?_ _ | refine Ext.alloc ?_ _ | refine Ext.trans ?_ (by assumption))))) hmc hmb h8' hn32 (hw1.keeps _ _ _ HB.out.1)).mono ?_
    rintro e w2 ⟨rfl, hw2⟩
    have hcell := hw2.keeps _ _ _ (hw1.keeps _ _ _ HB.out.1)
    have HC := Lib.hid hcell
    have hE : Ext w w2 := (by with_reducible (repeat (first | exact Ext.rfl_ _ | assumption | refine Ext.drew ?_ | refine Ext.drewN ?_ _ | refine Ext.alloc ?_ _ | refine Ext.trans ?_ (by assumption))))
    clear HB hw1 hw2 hcell
    by_cases hwf : wholeF x n = true
    · have hwf' := hwf
      unfold wholeF mayF at hwf'
      simp only [Bool.and_eq_true, decide_eq_true_eq] at hwf'
      have hn8 : n + 8 ≤ m := by omega
      have hn1 : 1 ≤ n := by omega
      have hwr3 : IntKind.i64.wrap (n : Int) = (n : Int) := by rw [IntKind.wrap_i64]; omega
      have hwr2 : IntKind.i64.wrap (8 + (n : Int)) = 8 + (n : Int) := by rw [IntKind.wrap_i64]; omega
      have hc8 : 8 + (n : Int) ≤ (c : Int) := by omega
      have h08 : 0 ≤ 8 + (n : Int) := by omega
      have h88 : (8 : Int) ≤ max (8 + (n : Int)) 0 := by omega
      have hcn8 : ¬ c = 8 := by omega
      have htn : (8 + (n : Int)).toNat - 8 = n := by omega
      have hpl : plF x = (x.drop 8).take n := by rw [HN.out]; rfl
      have HP := Lib.hid hpl
      have HWF := Lib.hid hwf
      rw [hwf]
      clear hwf hwf' hpl
      go_wp2
      refine wp_region_held_drew (S := (fun w' => w'.cell? ⟨w.heap.size, 0, none⟩ = some (.slice (some ⟨b, o, none⟩) m c))) (by kernel_rfl) (by (try dsimp only); exact Ext.keeps (show Ext w2 _ from (by with_reducible (repeat (first | exact Ext.rfl_ _ | assumption | refine Ext.drew ?_ | refine Ext.drewN ?_ _ | refine Ext.alloc ?_ _ | refine Ext.trans ?_ (by assumption))))) _ _ _ HC.out) (fun hHeld => ?_)
      refine wpAnyH_take (i := 0) (oi := ({ dst := some 17, op := Go.Op.load 29 (Go.Operand.tmp 1), type := 29, pos := "frame.go:44", after := #[], guard := none } : Go.Oper)) (v := ?v38) rfl (by kernel_rfl) (by kernel_rfl) (by kernel_rfl) (fun _ _ _ h => h) (Or.inl ⟨by rfl, ?hy38⟩) (by assumption) ?rest38
      case hy38 => (intro w hSw; (try dsimp only at hSw); go_simp; (try with_reducible rfl))
      (try simp only [Act.put, List.getElem_toArray, List.getElem_cons_zero, List.getElem_cons_succ, List.setIfInBounds_toArray, List.set_cons_zero, List.set_cons_succ])
      refine wpAnyH_take (i := 1) (oi := ({ dst := some 18, op := Go.Op.load 29 (Go.Operand.tmp 1), type := 29, pos := "frame.go:44", after := #[], guard := none } : Go.Oper)) (v := ?v39) rfl (by kernel_rfl) (by kernel_rfl) (by kernel_rfl) (fun _ _ _ h => h) (Or.inl ⟨by rfl, ?hy39⟩) (by assumption) ?rest39
      case hy39 => (intro w hSw; (try dsimp only at hSw); go_simp; (try with_reducible rfl))
      (try simp only [Act.put, List.getElem_toArray, List.getElem_cons_zero, List.getElem_cons_succ, List.setIfInBounds_toArray, List.set_cons_zero, List.set_cons_succ])
      refine wpAnyH_ready (rs := [2]) (by kernel_rfl) (by simp) ?_
      refine AllReadyH.cons (o := ({ dst := some 19, op := Go.Op.call { callee := Go.Callee.value (Go.Operand.func 74), args := #[Go.Operand.tmp 18], argTypes := #[29] }, type := 60, pos := "frame.go:44", after := #[{ on := 1, ground := Go.Ground.data }], guard := none } : Go.Oper)) rfl (fun K hK => ?_) AllReadyH.nil
      go_simp
      (go_at_call 74; refine (funword_any b o m c x _ (HX.out.ext (by with_reducible (repeat (first | exact Ext.rfl_ _ | assumption | refine Ext.drew ?_ | refine Ext.drewN ?_ _ | refine Ext.alloc ?_ _ | refine Ext.trans ?_ (by assumption))))) (by omega)).mono ?_; rintro e w3 ⟨rfl, hw3⟩; rw [HU.out])
      (try (go_wp2_with fail))
      refine hK.out _ _ (by (try dsimp only); exact Ext.keeps (show Ext w2 _ from (by with_reducible (repeat (first | exact Ext.rfl_ _ | assumption | refine Ext.drew ?_ | refine Ext.drewN ?_ _ | refine Ext.alloc ?_ _ | refine Ext.trans ?_ (by assumption))))) _ _ _ HC.out) (fun hHeld => ?_)
      clear hK K
      (try simp only [Act.put, List.getElem_toArray, List.getElem_cons_zero, List.getElem_cons_succ, List.setIfInBounds_toArray, List.set_cons_zero, List.set_cons_succ])
      refine wpAnyH_take (i := 3) (oi := ({ dst := some 20, op := Go.Op.convert 60 3 (Go.Operand.tmp 19), type := 3, pos := "frame.go:44", after := #[{ on := 2, ground := Go.Ground.data }], guard := none } : Go.Oper)) (v := ?v40) rfl (by kernel_rfl) (by kernel_rfl) (by kernel_rfl) (fun _ _ _ h => h) (Or.inl ⟨by rfl, ?hy40⟩) (by assumption) ?rest40
      case hy40 => (intro w hSw; (try dsimp only at hSw); go_simp; (try with_reducible rfl))
      (try simp only [Act.put, List.getElem_toArray, List.getElem_cons_zero, List.getElem_cons_succ, List.setIfInBounds_toArray, List.set_cons_zero, List.set_cons_succ])
      refine wpAnyH_take (i := 4) (oi := ({ dst := some 21, op := Go.Op.binOp Go.BinOp.add 3 (Go.Operand.const (Go.Value.int Go.IntKind.i64 8)) (Go.Operand.tmp 20) 3, type := 3, pos := "frame.go:44", after := #[{ on := 3, ground := Go.Ground.data }], guard := none } : Go.Oper)) (v := ?v41) rfl (by kernel_rfl) (by kernel_rfl) (by kernel_rfl) (fun _ _ _ h => h) (Or.inl ⟨by rfl, ?hy41⟩) (by assumption) ?rest41
      case hy41 => (intro w hSw; (try dsimp only at hSw); go_simp; (try with_reducible rfl))
      (try simp only [Act.put, List.getElem_toArray, List.getElem_cons_zero, List.getElem_cons_succ, List.setIfInBounds_toArray, List.set_cons_zero, List.set_cons_succ])
      refine wpAnyH_take (i := 5) (oi := ({ dst := some 22, op := Go.Op.slice 29 (Go.Operand.tmp 17) (some (Go.Operand.const (Go.Value.int Go.IntKind.i64 8))) (some (Go.Operand.tmp 21)) none, type := 29, pos := "frame.go:44", after := #[{ on := 0, ground := Go.Ground.data }, { on := 4, ground := Go.Ground.data }], guard := none } : Go.Oper)) (v := ?v42) rfl (by kernel_rfl) (by kernel_rfl) (by kernel_rfl) (fun _ _ _ h => h) (Or.inl ⟨by rfl, ?hy42⟩) (by assumption) ?rest42
      case hy42 => (intro w hSw; (try dsimp only at hSw); go_simp; (try with_reducible rfl))
      (try simp only [Act.put, List.getElem_toArray, List.getElem_cons_zero, List.getElem_cons_succ, List.setIfInBounds_toArray, List.set_cons_zero, List.set_cons_succ])
      refine wpAnyH_take (i := 6) (oi := ({ dst := some 2, op := Go.Op.assign (Go.Operand.tmp 22), type := 29, pos := "frame.go:44", after := #[{ on := 5, ground := Go.Ground.data }, { on := 2, ground := Go.Ground.chain }, { on := 0, ground := Go.Ground.phase }, { on := 1, ground := Go.Ground.phase }, { on := 2, ground := Go.Ground.phase }, { on := 3, ground := Go.Ground.phase }, { on := 4, ground := Go.Ground.phase }, { on := 5, ground := Go.Ground.phase }], guard := none } : Go.Oper)) (v := ?v43) rfl (by kernel_rfl) (by kernel_rfl) (by kernel_rfl) (fun _ _ _ h => h) (Or.inl ⟨by rfl, ?hy43⟩) (by assumption) ?rest43
      case hy43 => (intro w hSw; (try dsimp only at hSw); go_simp; (try with_reducible rfl))
      (try simp only [Act.put, List.getElem_toArray, List.getElem_cons_zero, List.getElem_cons_succ, List.setIfInBounds_toArray, List.set_cons_zero, List.set_cons_succ])
      refine wpAnyH_take (i := 7) (oi := ({ dst := some 3, op := Go.Op.assign (Go.Operand.const (Go.Value.bool true)), type := 4, pos := "frame.go:44", after := #[{ on := 6, ground := Go.Ground.chain }, { on := 0, ground := Go.Ground.phase }, { on := 1, ground := Go.Ground.phase }, { on := 2, ground := Go.Ground.phase }, { on := 3, ground := Go.Ground.phase }, { on := 4, ground := Go.Ground.phase }, { on := 5, ground := Go.Ground.phase }, { on := 6, ground := Go.Ground.phase }], guard := none } : Go.Oper)) (v := ?v44) rfl (by kernel_rfl) (by kernel_rfl) (by kernel_rfl) (fun _ _ _ h => h) (Or.inl ⟨by rfl, ?hy44⟩) (by assumption) ?rest44
      case hy44 => (intro w hSw; (try dsimp only at hSw); go_simp; (try with_reducible rfl))
      (try simp only [Act.put, List.getElem_toArray, List.getElem_cons_zero, List.getElem_cons_succ, List.setIfInBounds_toArray, List.set_cons_zero, List.set_cons_succ])
      refine wpAnyH_done (by kernel_rfl) ?_ _
      go_wp2
      go_ret2
      refine ⟨some ⟨b, o + 8, none⟩, n, c - 8, ?_, fun _ => ⟨by rw [HP.out]; exact (HX.out.mid 8 n (by omega)).ext (by with_reducible (repeat (first | exact Ext.rfl_ _ | assumption | refine Ext.drew ?_ | refine Ext.drewN ?_ _ | refine Ext.alloc ?_ _ | refine Ext.trans ?_ (by assumption)))), by omega⟩, (by with_reducible (repeat (first | exact Ext.rfl_ _ | assumption | refine Ext.drew ?_ | refine Ext.drewN ?_ _ | refine Ext.alloc ?_ _ | refine Ext.trans ?_ (by assumption))))⟩
      rw [HWF.out]
      simp only [Array.getD_eq_getD_getElem?, List.getElem?_toArray, List.getElem?_cons_zero, List.getElem?_cons_succ, Option.getD_some, htn]
    · have hwf' : wholeF x n = false := by simpa using hwf
      have HWF := Lib.hid hwf'
      rw [hwf']
      clear hwf hwf'
      go_wp2
      go_ret2
      exact ⟨none, 0, 0, by rw [HWF.out]; rfl, fun h => absurd (h.symm.trans HWF.out) (by decide), (by with_reducible (repeat (first | exact Ext.rfl_ _ | assumption | refine Ext.drew ?_ | refine Ext.drewN ?_ _ | refine Ext.alloc ?_ _ | refine Ext.trans ?_ (by assumption))))⟩

end Go.Proofs.Ythdahmicjlplcaa
