/- A region that draws its order, in a round of a range over a function: it is walked as outside of one. Conditions: it holds no defer. -/
import Derived.Test.YteooaplimiifiaaGreatRange
import Derived.OrdersIn
namespace Go.Proofs.YteooaplimiifiaaGreat
set_option linter.unusedSimpArgs false
set_option linter.unusedVariables false
set_option maxRecDepth 100000

def noDefer (ops : Array Oper) : Bool := ops.all fun o => match o.op with | .defer _ => false | _ => true
theorem noDefer_at {ops : Array Oper} (h : noDefer ops = true) {i : Nat} {o : Oper} (ho : ops[i]? = some o) : ∀ c, o.op ≠ .defer c := by
  intro c hc
  unfold noDefer at h
  rw [Array.all_eq_true_iff_forall_mem] at h
  have := h o (Array.mem_of_getElem? ho)
  rw [hc] at this
  cases this
theorem wpOp_rnd {F : Fence} {l n : Nat} {P : Program} {o : Oper} {K : Act → World → Prop} {Q : Exit → Act → World → Prop} {a : Act} {w : World} (hro : F.round = none) (hd : ∀ c, o.op ≠ .defer c) (h : o.wpIn F n P a w K Q) : o.wpIn (F.inRound l) n P a w K Q := by
  unfold Oper.wpIn at *
  rw [hro, Oper.semAt_none] at h
  rw [Fence.inRound_round, Oper.semAt_some l _ _ hd]
  exact ⟨h.1, by
    have h2 := h.2
    generalize (execOp a.eval o).run P w = r at h2 ⊢
    cases r with
    | ok x w' => cases x <;> exact h2
    | halt x w' => cases x <;> exact h2⟩
theorem wpAnyIn_rnd {F : Fence} {l n : Nat} {P : Program} {md : Region.Mode} {ops : Array Oper} {Q : Exit → Act → World → Prop} (hro : F.round = none) (hd : noDefer ops = true) :
    ∀ (fuel : Nat) (listed : Array Bool) (a : Act) (w : World), wpAnyIn F n P md ops Q fuel listed a w → wpAnyIn (F.inRound l) n P md ops Q fuel listed a w := by
  intro fuel
  induction fuel with
  | zero => exact fun _ _ _ h => h
  | succ fuel ih =>
    intro listed a w h
    refine ⟨h.1, fun i hi => ?_⟩
    have h1 := wpOpIn_mono (fun a w h => ih (listed.setIfInBounds i true) a w h) (h.2 i hi)
    unfold wpOpIn at h1 ⊢
    cases ho : ops[i]? with
    | none => rw [ho] at h1; exact h1
    | some o =>
      rw [ho] at h1
      simp only at h1 ⊢
      split
      · rename_i hw
        rw [if_pos hw] at h1
        exact wpOp_rnd hro (noDefer_at hd ho) h1
      · rename_i hw
        rw [if_neg hw] at h1
        exact h1
theorem wpIn_region_rnd {F : Fence} {l n : Nat} {P : Program} {ops : Array Oper} {Q : Exit → Act → World → Prop} {id : Nat} {a : Act} {w : World} (hm : P.follows .mixedOrders = true) (hd : noDefer ops = true) (hro : F.round = none)
    (h : wpAnyIn F n P .any ops Q ops.size (Array.replicate ops.size false) a { w with drawn := w.drawn + 1 }) : (Code.region id ops true).wpIn (F.inRound l) n P Q a w :=
  wpIn_region_any hm (wpAnyIn_rnd hro hd _ _ _ _ h)
/-- A state of a region that more than one order comes to: walked once. -/
theorem wpAnyIn_share {F : Fence} {n : Nat} {P : Program} {md : Region.Mode} {ops : Array Oper} {Q : Exit → Act → World → Prop} {fuel : Nat} {listed : Array Bool} {a : Act} {w : World} (f' : Nat) (L' : Array Bool) (a' : Act) (w' : World)
    (h : wpAnyIn F n P md ops Q f' L' a' w' → wpAnyIn F n P md ops Q fuel listed a w) (h' : wpAnyIn F n P md ops Q f' L' a' w') : wpAnyIn F n P md ops Q fuel listed a w := h h'

end Go.Proofs.YteooaplimiifiaaGreat
