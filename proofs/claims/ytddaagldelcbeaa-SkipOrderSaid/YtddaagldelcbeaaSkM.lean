/- The skiplist in memory, plainly. Conditions: none. -/
import Derived.Test.YtddaagldelcbeaaHtM
import Derived.Test.YtddaagldelcbeaaOwnS
import Derived.Test.YtddaagldelcbeaaOwnL
import Derived.Test.YtddaagldelcbeaaRange
namespace Go.Proofs.Ytddaagldelcbeaa
set_option linter.unusedSimpArgs false
set_option linter.unusedVariables false
open Go.RowKit

/-- A node: its block, its entry's headers, its entry. -/
structure Nd where
  b : Nat
  h : Hdr
  x : Ent

def ptr (b : Nat) : Value := .pointer (some ⟨b, 0, none⟩)
/-- The first node of a height above j. -/
def nx (j : Nat) : List Nd → Value
  | [] => .pointer none
  | n :: r => if j < ht n.x then ptr n.b else nx j r
def nxs (H : Nat) (r : List Nd) (j : Nat) : Value := if j < H then nx j r else .pointer none
def ndCells (c : List Value) (f : Nat → Value) : Array Value := (c ++ [f 0, f 1, f 2, f 3, f 4, f 5, f 6, f 7]).toArray
def hd0 : List Value := [.slice none 0 0, .int .i64 0, .int .i64 0, .slice none 0 0]
abbrev ndObj (c : List Value) (f : Nat → Value) : Obj := .cells (ndCells c f) 79 (0, 0)
abbrev liObj (h : Nat) (n m : Int) : Obj := .cells #[ptr h, .int .i64 n, .int .i64 m] 65 (0, 0)

theorem nx_split (j : Nat) (A B : List Nd) : (∃ C nd D, A = C ++ nd :: D ∧ (∀ c ∈ C, ht c.x ≤ j) ∧ j < ht nd.x ∧ nx j (A ++ B) = ptr nd.b) ∨ ((∀ c ∈ A, ht c.x ≤ j) ∧ nx j (A ++ B) = nx j B) := by
  induction A with
  | nil => exact .inr ⟨fun c h => by simp at h, rfl⟩
  | cons n A ih =>
    by_cases h : j < ht n.x
    · exact .inl ⟨[], n, A, rfl, fun c h => by simp at h, h, by simp [nx, h]⟩
    · rcases ih with ⟨C, nd, D, rfl, h1, h2, h3⟩ | ⟨h1, h2⟩
      · refine .inl ⟨n :: C, nd, D, rfl, ?_, h2, ?_⟩
        · intro c hc
          rcases List.mem_cons.1 hc with rfl | hc
          · omega
          · exact h1 c hc
        · simp only [List.cons_append, nx, if_neg h]
          simpa using h3
      · refine .inr ⟨?_, ?_⟩
        · intro c hc
          rcases List.mem_cons.1 hc with rfl | hc
          · omega
          · exact h1 c hc
        · simp only [List.cons_append, nx, if_neg h]
          exact h2
theorem nx_low {j : Nat} {A : List Nd} (h : ∀ c ∈ A, ht c.x ≤ j) (B : List Nd) : nx j (A ++ B) = nx j B := by
  rcases nx_split j A B with ⟨C, nd, D, rfl, _, h2, _⟩ | ⟨_, h2⟩
  · have := h nd (by simp); omega
  · exact h2

/-- The place of the last node (or of the head), and its height. -/
def cb (h : Nat) (A : List Nd) : Nat := match A.getLast? with | none => h | some nd => nd.b
def cH (A : List Nd) : Nat := match A.getLast? with | none => 8 | some nd => ht nd.x
theorem cb_snoc (h : Nat) (A : List Nd) (nd : Nd) : cb h (A ++ [nd]) = nd.b := by simp [cb]
theorem cH_snoc (A : List Nd) (nd : Nd) : cH (A ++ [nd]) = ht nd.x := by simp [cH]
theorem cb_nil (h : Nat) : cb h [] = h := rfl
theorem cH_nil : cH [] = 8 := rfl
/-- The last one of a height above j. -/
def lst (h j : Nat) (A : List Nd) : Nat := cb h (A.filter fun nd => decide (j < ht nd.x))
theorem lst_eq {h j : Nat} {A A2 : List Nd} (hA : j < cH A) (h2 : ∀ c ∈ A2, ht c.x ≤ j) : lst h j (A ++ A2) = cb h A := by
  unfold lst
  rw [List.filter_append, show A2.filter (fun nd => decide (j < ht nd.x)) = [] from List.filter_eq_nil_iff.2 (fun c hc => by have := h2 c hc; simp; omega), List.append_nil]
  rcases List.eq_nil_or_concat A with rfl | ⟨B, nd, rfl⟩
  · rfl
  · rw [List.concat_eq_append] at hA ⊢
    rw [cH_snoc] at hA
    rw [List.filter_append, List.filter_cons, if_pos (by simpa using hA), List.filter_nil, cb_snoc, cb_snoc]

/-- The bytes that entries have. -/
def wB (xs : List Ent) : Nat := (xs.map fun x => (wrE x).length).sum

structure SkN (w : World) (h : Nat) (L : List Nd) : Prop where
  head : w.heap[h]? = some (ndObj hd0 (nxs 8 L))
  node : ∀ A nd B, L = A ++ nd :: B → w.heap[nd.b]? = some (ndObj (cellsE nd.h nd.x) (nxs (ht nd.x) B))
  rd : ∀ nd ∈ L, RdE w (.agg (cellsE nd.h nd.x).toArray) nd.x
  ne : (h :: L.map Nd.b).Nodup
structure SkL (w : World) (g h : Nat) (L : List Nd) : Prop where
  list : w.heap[g]? = some (liObj h (L.length : Nat) (wB (L.map Nd.x) : Nat))
  sk : SkN w h L
  up : (L.map Nd.x).Pairwise fun x y => cmpE x y < 0
  may : ∀ nd ∈ L, mayE nd.x = true

/-- The blocks that are a list's. -/
def skT (g h : Nat) (L : List Nd) (k : Nat) : Prop := k = g ∨ k = h ∨ k ∈ L.map Nd.b

/-- Blocks that hold bytes are kept. -/
def NoU (X : Nat → Prop) (w : World) : Prop := ∀ b o z, w.cell? ⟨b, o, none⟩ = some (.int .u8 z) → X b

theorem Rd.keptU {X : Nat → Prop} {a b : World} (k : Kept X a b) (hu : NoU X a) {A : Option Addr} {n : Nat} {x : Bs} (h : Rd a A n x) : Rd b A n x :=
  ⟨h.1, fun hn => by
    obtain ⟨bl, o, e, hc⟩ := h.2 hn
    refine ⟨bl, o, e, fun j hj => ?_⟩
    have hcj := hc j hj
    have hlt := World.block_lt_of_cell? a _ hcj
    have hX := hu _ _ _ hcj
    have hb := k.block _ hlt hX
    unfold World.cell? at *
    simp only at hb hcj ⊢
    rw [hb]; exact hcj⟩
theorem RdE.keptU {X : Nat → Prop} {a b : World} (k : Kept X a b) (hu : NoU X a) {v : Value} {x : Ent} (h : RdE a v x) : RdE b v x := by
  obtain ⟨A, n, c, A', n', c', rfl, h1, h2, h3⟩ := h
  exact ⟨A, n, c, A', n', c', rfl, h1.keptU k hu, h2.keptU k hu, h3⟩

theorem nx_no (j : Nat) (L : List Nd) (z : Int) : nx j L ≠ .int .u8 z := by
  induction L with
  | nil => simp [nx]
  | cons n L ih =>
    unfold nx
    split
    · simp [ptr]
    · exact ih
theorem nxs_no (H : Nat) (L : List Nd) (j : Nat) (z : Int) : nxs H L j ≠ .int .u8 z := by
  unfold nxs
  split
  · exact nx_no _ _ _
  · simp
theorem ndCells_get {a b c d : Value} {f : Nat → Value} (j : Nat) (hj : j < 8) : (ndCells [a, b, c, d] f)[4 + j]? = some (f j) := by
  match j, hj with
  | 0, _ => rfl
  | 1, _ => rfl
  | 2, _ => rfl
  | 3, _ => rfl
  | 4, _ => rfl
  | 5, _ => rfl
  | 6, _ => rfl
  | 7, _ => rfl
  | j + 8, h => omega
theorem ndCells_no {a b c d : Value} {f : Nat → Value} (z : Int) (ha : a ≠ .int .u8 z) (hb : b ≠ .int .u8 z) (hc : c ≠ .int .u8 z) (hd : d ≠ .int .u8 z) (hf : ∀ j, f j ≠ .int .u8 z) (i : Nat) : (ndCells [a, b, c, d] f)[i]? ≠ some (.int .u8 z) := by
  match i with
  | 0 => simpa [ndCells] using ha
  | 1 => simpa [ndCells] using hb
  | 2 => simpa [ndCells] using hc
  | 3 => simpa [ndCells] using hd
  | 4 => simpa [ndCells] using hf 0
  | 5 => simpa [ndCells] using hf 1
  | 6 => simpa [ndCells] using hf 2
  | 7 => simpa [ndCells] using hf 3
  | 8 => simpa [ndCells] using hf 4
  | 9 => simpa [ndCells] using hf 5
  | 10 => simpa [ndCells] using hf 6
  | 11 => simpa [ndCells] using hf 7
  | i + 12 => simp [ndCells]

theorem mem_split {L : List Nd} {b : Nat} (h : b ∈ L.map Nd.b) : ∃ A nd B, L = A ++ nd :: B ∧ nd.b = b := by
  obtain ⟨nd, hm, rfl⟩ := List.mem_map.1 h
  obtain ⟨A, B, rfl⟩ := List.append_of_mem hm
  exact ⟨A, nd, B, rfl, rfl⟩

theorem cell_at {w : World} {b o : Nat} {cs : Array Value} {t : TypeId} {fr : Nat × Nat} (h : w.heap[b]? = some (.cells cs t fr)) : w.cell? ⟨b, o, none⟩ = cs[o]? := by
  simp [World.cell?, h]
theorem frozen_at {w : World} {b o : Nat} {cs : Array Value} {t : TypeId} (h : w.heap[b]? = some (.cells cs t (0, 0))) : w.frozen? ⟨b, o, none⟩ = false := by
  simp [World.frozen?, h]

/-- The list's blocks hold no bytes. -/
theorem SkL.noU {w : World} {g h : Nat} {L : List Nd} (s : SkL w g h L) : NoU (fun k => ¬ skT g h L k) w := by
  rintro b o z hc (rfl | rfl | hm)
  · rw [cell_at s.list] at hc
    match o, hc with
    | 0, hc => simp [ptr] at hc
    | 1, hc => simp at hc
    | 2, hc => simp at hc
    | o + 3, hc => simp at hc
  · rw [cell_at s.sk.head] at hc
    exact ndCells_no z (by simp) (by simp) (by simp) (by simp) (fun j => nxs_no _ _ _ _) _ hc
  · obtain ⟨A, nd, B, rfl, rfl⟩ := mem_split hm
    rw [cell_at (s.sk.node A nd B rfl)] at hc
    exact ndCells_no z (by simp) (by simp) (by simp) (by simp) (fun j => nxs_no _ _ _ _) _ hc
theorem SkL.lt {w : World} {g h : Nat} {L : List Nd} (s : SkL w g h L) (k : Nat) (hk : skT g h L k) : k < w.heap.size := by
  rcases hk with rfl | rfl | hm
  · exact (Array.getElem?_eq_some_iff.1 s.list).1
  · exact (Array.getElem?_eq_some_iff.1 s.sk.head).1
  · obtain ⟨A, nd, B, rfl, rfl⟩ := mem_split hm
    exact (Array.getElem?_eq_some_iff.1 (s.sk.node A nd B rfl)).1
/-- The nodes' bytes lie in Z. -/
def SkB (Z : Nat → Prop) (L : List Nd) : Prop := ∀ nd ∈ L, (0 < nd.h.n → ∀ a, nd.h.A = some a → Z a.block) ∧ (0 < nd.h.m → ∀ a, nd.h.B = some a → Z a.block)
theorem Rd.keptX {X : Nat → Prop} {a b : World} (k : Kept X a b) {A : Option Addr} {n : Nat} {x : Bs} (h : Rd a A n x) (hx : 0 < n → ∀ p, A = some p → X p.block) : Rd b A n x :=
  ⟨h.1, fun hn => by
    obtain ⟨bl, o, e, hc⟩ := h.2 hn
    refine ⟨bl, o, e, fun j hj => ?_⟩
    have hcj := hc j hj
    have hlt := World.block_lt_of_cell? a _ hcj
    have hX := hx hn _ e
    have hb := k.block _ hlt hX
    unfold World.cell? at *
    simp only at hb hcj ⊢
    rw [hb]; exact hcj⟩
theorem RdE.hdr {w : World} {hd : Hdr} {x : Ent} (h : RdE w (.agg (cellsE hd x).toArray) x) : Rd w hd.A hd.n x.key ∧ Rd w hd.B hd.m x.val := by
  obtain ⟨A, n, c, A', n', c', e, h1, h2, _⟩ := h
  simp [cellsE] at e
  obtain ⟨⟨rfl, rfl, rfl⟩, rfl, rfl, rfl⟩ := e
  exact ⟨h1, h2⟩
theorem RdE.keptX {X : Nat → Prop} {a b : World} (k : Kept X a b) {hd : Hdr} {x : Ent} (h : RdE a (.agg (cellsE hd x).toArray) x) (h1 : 0 < hd.n → ∀ p, hd.A = some p → X p.block) (h2 : 0 < hd.m → ∀ p, hd.B = some p → X p.block) : RdE b (.agg (cellsE hd x).toArray) x := by
  obtain ⟨A, n, c, A', n', c', e, k1, k2, h3⟩ := h
  have e' := e
  simp [cellsE] at e'
  obtain ⟨⟨rfl, rfl, rfl⟩, rfl, rfl, rfl⟩ := e'
  exact ⟨_, _, _, _, _, _, e, k1.keptX k h1, k2.keptX k h2, h3⟩
theorem SkL.kept2 {w w' : World} {g h : Nat} {L : List Nd} (s : SkL w g h L) {X : Nat → Prop} (k : Kept X w w') (hu : SkB X L) (hX : ∀ b, skT g h L b → X b) : SkL w' g h L := by
  have hb : ∀ b, skT g h L b → w'.heap[b]? = w.heap[b]? := fun b hb => k.block b (s.lt b hb) (hX b hb)
  refine ⟨(hb g (.inl rfl)).trans s.list, ⟨(hb h (.inr (.inl rfl))).trans s.sk.head, fun A nd B e => ?_, fun nd hm => (s.sk.rd nd hm).keptX k (hu nd hm).1 (hu nd hm).2, s.sk.ne⟩, s.up, s.may⟩
  exact (hb nd.b (.inr (.inr (by rw [e]; simp)))).trans (s.sk.node A nd B e)
theorem SkL.byt {w : World} {g h : Nat} {L : List Nd} (s : SkL w g h L) : SkB (fun k => k < w.heap.size) L := by
  intro nd hm
  obtain ⟨h1, h2⟩ := (s.sk.rd nd hm).hdr
  have lt : ∀ {A : Option Addr} {n : Nat} {x : Bs}, Rd w A n x → 0 < n → ∀ a, A = some a → a.block < w.heap.size := by
    intro A n x hr hn a ha
    obtain ⟨b, o, e, hc⟩ := hr.2 hn
    rw [ha] at e
    cases e
    have := hc 0 (by rw [hr.1]; exact hn)
    exact World.block_lt_of_cell? w _ this
  exact ⟨lt h1, lt h2⟩
theorem SkL.kept {w w' : World} {g h : Nat} {L : List Nd} (s : SkL w g h L) {X : Nat → Prop} (k : Kept X w w') (hu : NoU X w) (hX : ∀ b, skT g h L b → X b) : SkL w' g h L := by
  have hb : ∀ b, skT g h L b → w'.heap[b]? = w.heap[b]? := fun b hb => k.block b (s.lt b hb) (hX b hb)
  refine ⟨(hb g (.inl rfl)).trans s.list, ⟨(hb h (.inr (.inl rfl))).trans s.sk.head, fun A nd B e => ?_, fun nd hm => (s.sk.rd nd hm).keptU k hu, s.sk.ne⟩, s.up, s.may⟩
  exact (hb nd.b (.inr (.inr (by rw [e]; simp)))).trans (s.sk.node A nd B e)
theorem SkL.ext {w w' : World} {g h : Nat} {L : List Nd} (s : SkL w g h L) (k : Ext w w') : SkL w' g h L :=
  s.kept (X := fun _ => True) (Kept.of_ext k) (fun _ _ _ _ => trivial) (fun _ _ => trivial)
/-- The list's block is none of its nodes'. -/
theorem SkL.gne {w : World} {g h : Nat} {L : List Nd} (s : SkL w g h L) : g ≠ h ∧ g ∉ L.map Nd.b := by
  have hl := s.list
  refine ⟨fun e => ?_, fun hm => ?_⟩
  · rw [e, s.sk.head] at hl
    simp [ndCells] at hl
  · obtain ⟨A, nd, B, rfl, e⟩ := mem_split hm
    rw [← e, s.sk.node A nd B rfl] at hl
    simp [ndCells] at hl

/-- The node behind which S stands. -/
theorem SkN.at_ {w : World} {h : Nat} {L A S : List Nd} (s : SkN w h L) (e : L = A ++ S) : ∃ a b c d, w.heap[cb h A]? = some (ndObj [a, b, c, d] (nxs (cH A) S)) ∧ (∀ z, a ≠ .int .u8 z ∧ b ≠ .int .u8 z ∧ c ≠ .int .u8 z ∧ d ≠ .int .u8 z) := by
  rcases List.eq_nil_or_concat A with rfl | ⟨B, nd, rfl⟩
  · subst e
    exact ⟨_, _, _, _, s.head, fun z => by simp⟩
  · rw [List.concat_eq_append] at e ⊢
    rw [cb_snoc, cH_snoc]
    exact ⟨_, _, _, _, s.node B nd S (by rw [e]; simp), fun z => by simp⟩

end Go.Proofs.Ytddaagldelcbeaa
