/- (*skip.List).Put, wholly. Conditions: the list is one; the entry reads. -/
import Derived.Test.YtddaagldelcbeaaSkQ
import Derived.Test.YtddaagldelcbeaaInsP
namespace Go.Proofs.Ytddaagldelcbeaa
set_option linter.unusedSimpArgs false
set_option linter.unusedVariables false
open Go.RowKit

theorem cmpE_tr {a b c : Ent} (h1 : cmpE a b < 0) (h2 : cmpE b c < 0) : cmpE a c < 0 := by
  have h3 := cmpE_trans a b c (by omega) (by omega)
  rcases cmpE_range a c with h | h | h
  · omega
  · have h4 : cmpE c a ≤ 0 := by rw [cmpE_anti a c]; omega
    have h5 := cmpE_trans c a b h4 (by omega)
    have h6 := cmpE_anti b c
    omega
  · omega
theorem takeW_true {α : Type} (p : α → Bool) (l : List α) : ∀ a ∈ l.takeWhile p, p a = true := by
  induction l with
  | nil => intro a h; simp at h
  | cons x l ih =>
    intro a h
    rw [List.takeWhile_cons] at h
    split at h
    · rcases List.mem_cons.1 h with rfl | h
      · assumption
      · exact ih a h
    · simp at h
theorem takeW_map {α β : Type} (f : α → β) (p : β → Bool) (l : List α) : (l.map f).takeWhile p = (l.takeWhile (p ∘ f)).map f ∧ (l.map f).dropWhile p = (l.dropWhile (p ∘ f)).map f := by
  induction l with
  | nil => simp
  | cons x l ih =>
    simp only [List.map_cons, List.takeWhile_cons, List.dropWhile_cons, Function.comp]
    by_cases h : p (f x) = true
    · simp only [h, if_true, List.map_cons]; exact ⟨by rw [ih.1], ih.2⟩
    · simp [h]
/-- Behind those that are ahead none is. -/
theorem drop_not {x : Ent} {L : List Nd} (hu : (L.map Nd.x).Pairwise fun a b => cmpE a b < 0) : ∀ b ∈ L.dropWhile (fun nd => ahE x nd.x), ¬ cmpE b.x x < 0 := by
  induction L with
  | nil => intro b h; simp at h
  | cons n L ih =>
    intro b hb
    rw [List.map_cons, List.pairwise_cons] at hu
    rw [List.dropWhile_cons] at hb
    split at hb
    · exact ih hu.2 b hb
    · rename_i hn
      have hn' : ¬ cmpE n.x x < 0 := by simpa [ahE] using hn
      rcases List.mem_cons.1 hb with rfl | hb
      · exact hn'
      · intro h
        exact hn' (cmpE_tr (hu.1 b.x (List.mem_map_of_mem hb)) h)

/-- Of whom the nodes' bytes are. -/
def NewNd (w : World) (L L' : List Nd) : Prop := ∀ nd ∈ L', nd ∈ L ∨ (w.heap.size ≤ nd.b ∧ Hi w.heap.size nd.h.A nd.h.n ∧ Hi w.heap.size nd.h.B nd.h.m)

theorem skput_any (g h : Nat) (L : List Nd) (v : Value) (x : Ent) (w : World) (s : SkL w g h L) (hx : RdE w v x) (hlen : L.length ≤ 1000000) :
    Calls Try.prog 32 #[.pointer (some ⟨g, 0, none⟩), v] w fun e w' => e = .returned (.int .i64 (insP (L.map Nd.x) x).2) ∧ ∃ L', L'.map Nd.x = (insP (L.map Nd.x) x).1 ∧ SkL w' g h L' ∧ Kept (fun k => ¬ skT g h L k) w w' ∧ NewNd w L L' ∧ L'.length ≤ L.length + 1 := by
  by_cases hm : mayE x = true
  · have hc : (fun nd : Nd => ahE x nd.x) = ahE x ∘ Nd.x := rfl
    obtain ⟨t1, t2⟩ := takeW_map Nd.x (ahE x) L
    rw [← hc] at t1 t2
    have hTD : L = L.takeWhile (fun nd => ahE x nd.x) ++ L.dropWhile (fun nd => ahE x nd.x) := (List.takeWhile_append_dropWhile ..).symm
    have ha : ∀ a ∈ L.takeWhile (fun nd => ahE x nd.x), cmpE a.x x < 0 := fun a h => by have := takeW_true _ L a h; simpa [ahE] using this
    have hb := drop_not (x := x) s.up
    have hup := s.up
    generalize L.takeWhile (fun nd => ahE x nd.x) = A0 at *
    generalize hB : L.dropWhile (fun nd => ahE x nd.x) = B0 at *
    subst hTD
    cases B0 with
    | nil =>
      refine (skput_end g h A0 v x w s hx hm ha (fun b h => by simp at h) hlen).mono ?_
      rintro e w' ⟨rfl, new, rfl, hn1, hs, hk, h1, h2⟩
      have hi : insP ((A0 ++ []).map Nd.x) new.x = (A0.map Nd.x ++ [new.x], 0) := insP_end hm (by rw [t1]; simp) (by rw [t2]; rfl) |>.trans (by simp)
      rw [hi]
      refine ⟨rfl, A0 ++ [new], by simp, hs, hk, ?_, by simp⟩
      intro nd hnd
      rcases List.mem_append.1 hnd with h | h
      · exact .inl (by simpa using h)
      · obtain rfl : nd = new := by simpa using h
        exact .inr ⟨hn1, h1, h2⟩
    | cons nd D =>
      by_cases hc0 : cmpE nd.x x = 0
      · refine (skput_there g h A0 D nd v x w s hx hm ha hc0 hb).mono ?_
        rintro e w' ⟨rfl, hw⟩
        have hi : insP ((A0 ++ nd :: D).map Nd.x) x = ((A0 ++ nd :: D).map Nd.x, 7) := insP_there (y := nd.x) (ys := D.map Nd.x) hm (by rw [t2]; simp) hc0
        rw [hi]
        exact ⟨rfl, _, rfl, s.ext hw, Kept.of_ext hw, fun nd h => .inl h, Nat.le_succ _⟩
      · have hgt : ∀ b ∈ nd :: D, cmpE x b.x < 0 := by
          have h0 : cmpE x nd.x < 0 := by
            have h1 := hb nd (by simp)
            have h2 := cmpE_anti x nd.x
            rcases cmpE_range x nd.x with h | h | h <;> omega
          intro b hbm
          rcases List.mem_cons.1 hbm with rfl | hbm
          · exact h0
          · rw [List.map_append, List.pairwise_append, List.map_cons, List.pairwise_cons] at hup
            exact cmpE_tr h0 (hup.2.1.1 b.x (List.mem_map_of_mem hbm))
        refine (skput_mid g h A0 D nd v x w s hx hm ha hgt hlen).mono ?_
        rintro e w' ⟨rfl, new, rfl, hn1, hs, hk, h1, h2⟩
        have hi : insP ((A0 ++ nd :: D).map Nd.x) new.x = (A0.map Nd.x ++ new.x :: nd.x :: D.map Nd.x, 0) := insP_mid hm t1 (by rw [t2]; simp) hc0
        rw [hi]
        refine ⟨rfl, A0 ++ new :: nd :: D, by simp, hs, hk, ?_, by simp; omega⟩
        intro n' hnd
        rcases List.mem_append.1 hnd with h | h
        · exact .inl (by simp [h])
        · rcases List.mem_cons.1 h with rfl | h
          · exact .inr ⟨hn1, h1, h2⟩
          · exact .inl (List.mem_append_right _ h)
  · have hm' : mayE x = false := by simpa using hm
    refine (skput_bad g h L v x w s hx hm').mono ?_
    rintro e w' ⟨rfl, hw⟩
    rw [insP_no hm']
    exact ⟨rfl, L, rfl, s.ext hw, Kept.of_ext hw, fun nd h => .inl h, Nat.le_succ _⟩

end Go.Proofs.Ytddaagldelcbeaa
