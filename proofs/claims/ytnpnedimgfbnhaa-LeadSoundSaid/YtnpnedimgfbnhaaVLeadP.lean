/- The verdict's shape, and what follows from it: plain laws. -/
import Derived.Test.YtnpnedimgfbnhaaM22
namespace Go.Proofs.Ytnpnedimgfbnhaa
open Go.RowKit Go.Mum
set_option linter.unusedVariables false
set_option maxRecDepth 100000

/-- What a verdict is: a fault, or over a way. -/
inductive DecS (rd : Nat → Option Nat) (n : Nat) (W : Int → Bool) (cr ps va : Nat) (kind : Int) : Prop
  | no (h : (toF rd n cr 16 ps va kind).2 = false) (hv : decF rd n W cr ps va kind = failV va kind)
  | flat (hp : ps / 4 % 2 = 0) (hk : 1 ≤ kind ∧ kind ≤ 3) (hl : va < 64 * n) (ht : toF rd n cr 16 ps va kind = (va, true))
      (hv : decF rd n W cr ps va kind = overV W 23 va 0 0 0 ((va / 64 : Nat) : Int) false kind)
  | way (b a e d t : Nat) (hp : ps / 4 % 2 = 1) (hk : 1 ≤ kind ∧ kind ≤ 3) (hl : lookF rd n cr 16 va = some (b, a, e, d, t, a / 64)) (hm : mayB b kind (ps % 2 == 1) = true)
      (ht : toF rd n cr 16 ps va kind = (a, true)) (hv : decF rd n W cr ps va kind = overV W b a e d t ((a / 64 : Nat) : Int) true kind)

theorem dec_shape (rd : Nat → Option Nat) (n : Nat) (W : Int → Bool) (cr ps va : Nat) (kind : Int) : DecS rd n W cr ps va kind := by
  cases hq : (toF rd n cr 16 ps va kind).2 with
  | false =>
    refine .no hq ?_
    unfold decF wayL
    rw [if_pos hq]
    rfl
  | true =>
    have hk := toF_kind hq
    rcases (by omega : ps / 4 % 2 = 0 ∨ ps / 4 % 2 = 1) with hpg | hpg
    · have hq0 := hq
      unfold toF at hq
      rw [if_pos hpg] at hq
      split at hq
      · cases hq
      · rename_i hn
        have e1 : toF rd n cr 16 ps va kind = (va, true) := by
          unfold toF
          rw [if_pos hpg, if_neg hn]
        refine .flat hpg hk (by omega) e1 ?_
        unfold decF wayL
        rw [if_neg (by rw [hq0]; simp), if_neg (by omega), e1]
        show overV W 23 va 0 0 0 ((va / 64 : Nat) : Int) (decide (ps / 4 % 2 = 1)) kind = _
        rw [decide_eq_false (by omega)]
    · have hq0 := hq
      cases hl : lookF rd n cr 16 va with
      | none =>
        unfold toF at hq
        rw [if_neg (by omega), hl] at hq
        cases hq
      | some r =>
        obtain ⟨b, a, e, d, t, p⟩ := r
        have hp := lookF_page hl
        subst hp
        unfold toF at hq
        rw [if_neg (by omega), hl] at hq
        simp only at hq
        split at hq
        · rename_i hm
          have e1 : toF rd n cr 16 ps va kind = (a, true) := by
            unfold toF
            rw [if_neg (by omega), hl]
            simp only
            rw [if_pos hm]
          refine .way b a e d t hpg hk hl hm e1 ?_
          unfold decF wayL
          rw [if_neg (by rw [hq0]; simp), if_pos hpg, hl]
          show overV W b a e d t ((a / 64 : Nat) : Int) (decide (ps / 4 % 2 = 1)) kind = _
          rw [decide_eq_true hpg]
        · cases hq

/-- Over a way there is no fault. -/
theorem over_act (W : Int → Bool) (b : Nat) (a e : Int) (d t : Nat) (p : Int) (pg : Bool) (kind : Int) : (overV W b a e d t p pg kind).act = 1 ∨ (overV W b a e d t p pg kind).act = 2 := by
  unfold overV
  dsimp only
  split
  · exact .inr rfl
  · exact .inl rfl

/-- The bits of two verdicts, of which one has a mark more. -/
def BitsLe (x y : Int) : Prop := (x = 0 ∧ y = 0) ∨ (y = 0 ∧ (x = 5 ∨ x = 7 ∨ x = 13 ∨ x = 15)) ∨ (x = y ∧ (x = 5 ∨ x = 7 ∨ x = 13 ∨ x = 15)) ∨ (x = 7 ∧ y = 5) ∨ (x = 15 ∧ y = 13)

theorem leadB_vals (b : Nat) (q : Bool) : leadB b q = 5 ∨ leadB b q = 7 ∨ leadB b q = 13 ∨ leadB b q = 15 := by
  unfold leadB
  have h8 : b / 8 % 2 = 0 ∨ b / 8 % 2 = 1 := by omega
  rcases h8 with h | h <;> rw [h] <;> split <;> simp

theorem leadB_true (b : Nat) : leadB b true = 5 + b / 8 % 2 * 8 := by unfold leadB; simp

theorem leadB_false (b : Nat) : leadB b false = leadB b true ∨ leadB b false = leadB b true + 2 := by
  unfold leadB
  split <;> simp

theorem leadB_true_vals (b : Nat) : leadB b true = 5 ∨ leadB b true = 13 := by rw [leadB_true]; omega

/-- One mark more: the verdict. -/
theorem over_marked {W W' : Int → Bool} (hW : ∀ x, W x = true → W' x = true) (b : Nat) (a e : Int) (d t : Nat) (p : Int) (pg : Bool) (kind : Int) (hp : a / 64 = p) :
    let V := overV W b a e d t p pg kind
    let V' := overV W' b a e d t p pg kind
    ((V.act = 1 ∧ V'.act = 1) ∨ (V.act = 1 ∧ V'.act = 2) ∨ (V.act = 2 ∧ V'.act = 2)) ∧ V.frame = V'.frame ∧ BitsLe V.bits V'.bits := by
  have hq : (if pg = true then p else a / 64) = p := by cases pg <;> simp [hp]
  intro V V'
  have hv : V = ⟨if kind = 3 ∧ (b / 16 % 2 = 0 ∨ W p = true) then 2 else 1, p, if kind = 3 ∧ (b / 16 % 2 = 0 ∨ W p = true) then 0 else (leadB b (W p) : Nat), if pg then tabs d t else [], if pg then e else 0, decide (kind = 3 ∧ b / 16 % 2 = 0), 0, 0⟩ := by
    show overV W b a e d t p pg kind = _
    unfold overV
    rw [hq]
  have hv' : V' = ⟨if kind = 3 ∧ (b / 16 % 2 = 0 ∨ W' p = true) then 2 else 1, p, if kind = 3 ∧ (b / 16 % 2 = 0 ∨ W' p = true) then 0 else (leadB b (W' p) : Nat), if pg then tabs d t else [], if pg then e else 0, decide (kind = 3 ∧ b / 16 % 2 = 0), 0, 0⟩ := by
    show overV W' b a e d t p pg kind = _
    unfold overV
    rw [hq]
  rw [hv, hv']
  dsimp only
  have hm := hW p
  generalize W p = w1 at hm
  generalize W' p = w2 at hm
  by_cases h1 : kind = 3 ∧ (b / 16 % 2 = 0 ∨ w1 = true)
  · have h2 : kind = 3 ∧ (b / 16 % 2 = 0 ∨ w2 = true) := ⟨h1.1, h1.2.imp id hm⟩
    rw [if_pos h1, if_pos h2, if_pos h1, if_pos h2]
    exact ⟨.inr (.inr ⟨rfl, rfl⟩), rfl, .inl ⟨rfl, rfl⟩⟩
  · rw [if_neg h1, if_neg h1]
    have hx := leadB_vals b w1
    by_cases h2 : kind = 3 ∧ (b / 16 % 2 = 0 ∨ w2 = true)
    · rw [if_pos h2, if_pos h2]
      refine ⟨.inr (.inl ⟨rfl, rfl⟩), rfl, .inr (.inl ⟨rfl, by omega⟩)⟩
    · rw [if_neg h2, if_neg h2]
      refine ⟨.inl ⟨rfl, rfl⟩, rfl, ?_⟩
      cases w1
      · cases w2
        · exact .inr (.inr (.inl ⟨rfl, by omega⟩))
        · have h3 := leadB_false b
          have h4 := leadB_true_vals b
          unfold BitsLe
          omega
      · rw [hm rfl]
        exact .inr (.inr (.inl ⟨rfl, by omega⟩))

theorem failV_act (va kind : Int) : (failV va kind).act = 3 := by unfold failV; split <;> rfl

/-- One mark more. -/
theorem dec_marked {W W' : Int → Bool} (hW : ∀ x, W x = true → W' x = true) (rd : Nat → Option Nat) (n cr ps va : Nat) (kind : Int) :
    let V := decF rd n W cr ps va kind
    let V' := decF rd n W' cr ps va kind
    (V.act = 3 ∧ V' = V) ∨ (((V.act = 1 ∧ V'.act = 1) ∨ (V.act = 1 ∧ V'.act = 2) ∨ (V.act = 2 ∧ V'.act = 2)) ∧ V.frame = V'.frame ∧ BitsLe V.bits V'.bits) := by
  intro V V'
  show (_ ∧ decF rd n W' cr ps va kind = decF rd n W cr ps va kind) ∨ _
  rcases dec_shape rd n W cr ps va kind with ⟨h1, h2⟩ | ⟨hp, hk, hl, ht, hv⟩ | ⟨b, a, e, d, t, hp, hk, hl, hm, ht, hv⟩
  · refine .inl ?_
    rcases dec_shape rd n W' cr ps va kind with ⟨h3, h4⟩ | ⟨_, _, _, ht', _⟩ | ⟨_, _, _, _, _, _, _, _, _, ht', _⟩
    · exact ⟨by show (decF rd n W cr ps va kind).act = 3; rw [h2]; exact failV_act _ _, by rw [h2, h4]⟩
    · rw [ht'] at h1; cases h1
    · rw [ht'] at h1; cases h1
  · refine .inr ?_
    rcases dec_shape rd n W' cr ps va kind with ⟨h3, _⟩ | ⟨_, _, _, ht', hv'⟩ | ⟨_, _, _, _, _, hp', _, _, _, ht', _⟩
    · rw [ht] at h3; cases h3
    · have := over_marked hW 23 va 0 0 0 ((va / 64 : Nat) : Int) false kind (by omega)
      rw [← hv, ← hv'] at this
      exact this
    · omega
  · refine .inr ?_
    rcases dec_shape rd n W' cr ps va kind with ⟨h3, _⟩ | ⟨hp', _, _, ht', hv'⟩ | ⟨b', a', e', d', t', hp', _, hl', _, ht', hv'⟩
    · rw [ht] at h3; cases h3
    · omega
    · rw [hl] at hl'
      simp only [Option.some.injEq, Prod.mk.injEq] at hl'
      obtain ⟨rfl, rfl, rfl, rfl, rfl, -⟩ := hl'
      have := over_marked hW b a e d t ((a / 64 : Nat) : Int) true kind (by omega)
      rw [← hv, ← hv'] at this
      exact this
end Go.Proofs.Ytnpnedimgfbnhaa
