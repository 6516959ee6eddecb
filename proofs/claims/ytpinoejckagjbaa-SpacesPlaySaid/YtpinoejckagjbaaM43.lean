/- Contracts of the functions that the law reaches, walked, and the plain laws on them (several texts in one). -/
import Derived.OrdersIn
import Derived.OwnWalkIn
import Derived.Test.YtpinoejckagjbaaM04

/- A region whose order is drawn, inside a round of a loop over a function: it may be walked as a plain one. -/
namespace Go.Mum
open Go
set_option linter.unusedVariables false

theorem upon_in {P : Program} {l n : Nat} {o : Oper} {a : Act} {K K' : Act → World → Prop} {Q : Exit → Act → World → Prop} (hK : ∀ a w, K a w → K' a w) {r : Result Next} (h : o.upon P a K Q r) : o.uponIn (Fence.wide.inRound l) n P a K' Q r := by
  match r, h with
  | .ok (.value v) w', h => exact hK _ _ h
  | .ok .skip w', h => exact hK _ _ h
  | .ok (.defer d) w', h => exact hK _ _ h
  | .ok (.enter f args) w', h =>
    have h' : Calls P f args w' fun
      | .returned v, w'' => K' (a.put o.dst v) w''
      | .panicked chain, w'' => Q (.panic chain) a w''
      | .outgrown, _ => LetsOut Q := Calls.mono h (by
        rintro e w'' h
        cases e with
        | returned v => exact hK _ _ h
        | panicked c => exact h
        | outgrown => exact h)
    exact ⟨fun hd => by simp [Fence.wide] at hd, callsIn_wide.2 h'⟩
  | .ok (.row row args) w', h =>
    refine ⟨fun hd => by simp [Fence.wide] at hd, fun c cs _ => ?_⟩
    obtain ⟨v, w'', h1, h2⟩ := h c cs
    exact ⟨v, w'', hK _ _ h1, stepsIn_wide.2 h2⟩
  | .halt (.panic v) w', h => exact h

theorem wpOp_in {P : Program} {ops : Array Oper} {Q : Exit → Act → World → Prop} {l n i : Nat} {K K' : Act → World → Prop} (hK : ∀ a w, K a w → K' a w) (hd : ∀ (j : Nat) (o : Oper), ops[j]? = some o → ∀ c, o.op ≠ .defer c) (hL : ¬ LetsOut Q) {a : Act} {w : World} (h : wpOp P ops Q i K a w) : wpOpIn (Fence.wide.inRound l) n P ops Q i K' a w := by
  unfold wpOp at h
  unfold wpOpIn
  cases ho : ops[i]? with
  | none => rw [ho] at h; exact hK _ _ h
  | some o =>
    rw [ho] at h
    simp only at h ⊢
    split at h
    · rename_i hw
      rw [if_pos hw]
      rcases h with h | h
      · refine ⟨fun _ _ => trivial, ?_⟩
        rw [Oper.semAt_plain _ _ _ (hd i o ho)]
        exact upon_in hK h
      · exact absurd h.2 hL
    · rename_i hw
      rw [if_neg hw]
      exact ⟨fun _ _ => trivial, hK _ _ h⟩

theorem wpAny_in {P : Program} {ops : Array Oper} {Q : Exit → Act → World → Prop} {md : Region.Mode} {l n : Nat} (hd : ∀ (j : Nat) (o : Oper), ops[j]? = some o → ∀ c, o.op ≠ .defer c) (hL : ¬ LetsOut Q) : ∀ (fuel : Nat) (listed : Array Bool) (a : Act) (w : World), wpAny P md ops Q fuel listed a w → wpAnyIn (Fence.wide.inRound l) n P md ops Q fuel listed a w
  | 0, _, _, _, h => h
  | fuel + 1, listed, a, w, h => ⟨h.1, fun i hi => wpOp_in (fun a w => wpAny_in hd hL fuel _ a w) hd hL (h.2 i hi)⟩

/-- A region that draws, in a round of a loop over a function. -/
theorem wpIn_region_held_drew {P : Program} {ops : Array Oper} {Q : Exit → Act → World → Prop} {S : World → Prop} {l n id : Nat} {a : Act} {w : World} (hm : P.follows .mixedOrders = true) (hd : ∀ (j : Nat) (o : Oper), ops[j]? = some o → ∀ c, o.op ≠ .defer c) (hL : ¬ LetsOut Q) (hS : S w.drew)
    (h : S w.drew → wpAnyH P .any ops Q S ops.size (Array.replicate ops.size false) a w.drew) : (Code.region id ops true).wpIn (Fence.wide.inRound l) n P Q a w :=
  wpIn_region_any hm (wpAny_in hd hL _ _ _ _ (wpAny_of_held _ _ _ _ (h hS)))

def isDefer : Op → Bool
  | .defer _ => true
  | _ => false

theorem no_defer {ops : Array Oper} (h : (ops.toList.all fun o => !isDefer o.op) = true) : ∀ (j : Nat) (o : Oper), ops[j]? = some o → ∀ c, o.op ≠ .defer c := by
  intro j o hj c hc
  have hm : o ∈ ops.toList := by
    rw [← Array.getElem?_toList] at hj
    exact List.mem_of_getElem? hj
  have := List.all_eq_true.1 h o hm
  rw [hc] at this
  cases this
end Go.Mum
