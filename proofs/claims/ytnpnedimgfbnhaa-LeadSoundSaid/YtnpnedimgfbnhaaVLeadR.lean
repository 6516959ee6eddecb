/- What is led on, the machine would do: plain laws. -/
import Derived.Test.YtnpnedimgfbnhaaVLeadP
namespace Go.Proofs.Ytnpnedimgfbnhaa
open Go.RowKit Go.Mum
set_option linter.unusedVariables false
set_option maxRecDepth 100000

theorem may_three (b : Nat) (u : Bool) : mayB b 3 u = (!(b % 2 == 0 || u && b / 4 % 2 == 0) && (b / 2 % 2 == 1 && b / 8 % 2 == 0)) := by unfold mayB; rw [if_pos rfl]
theorem may_two (b : Nat) (u : Bool) : mayB b 2 u = (!(b % 2 == 0 || u && b / 4 % 2 == 0) && (b / 8 % 2 == 0)) := by unfold mayB; rw [if_neg (by decide), if_pos rfl]
theorem may_one (b : Nat) (u : Bool) : mayB b 1 u = (!(b % 2 == 0 || u && b / 4 % 2 == 0) && true) := by unfold mayB; rw [if_neg (by decide), if_neg (by decide)]; rfl

theorem may_bits (b : Nat) (q : Bool) (kind : Int) (u : Bool) (hk13 : 1 ≤ kind ∧ kind ≤ 3) (hm : mayB b kind u = true) (hk : kind = 3 → b / 16 % 2 = 1 ∧ q = false) : mayB (leadB b q) kind true = true := by
  have h8 : b / 8 % 2 = 0 ∨ b / 8 % 2 = 1 := by omega
  have hv := leadB_vals b q
  have h3 : kind = 3 ∨ kind = 2 ∨ kind = 1 := by omega
  rcases h3 with rfl | rfl | rfl
  · obtain ⟨e16, rfl⟩ := hk rfl
    rw [may_three] at hm
    simp only [Bool.and_eq_true, beq_iff_eq] at hm
    obtain ⟨_, e2, e8⟩ := hm
    unfold leadB
    rw [if_pos ⟨e2, e16, rfl⟩, e8]
    decide +kernel
  · rw [may_two] at hm
    simp only [Bool.and_eq_true, beq_iff_eq] at hm
    obtain ⟨_, e8⟩ := hm
    unfold leadB
    rw [e8]
    split <;> decide +kernel
  · rcases hv with h | h | h | h <;> rw [h] <;> decide +kernel

theorem may_write {b : Nat} {q : Bool} (h : mayB (leadB b q) 3 true = true) : b / 2 % 2 = 1 ∧ b / 16 % 2 = 1 ∧ q = false ∧ b / 8 % 2 = 0 := by
  rw [may_three] at h
  simp only [Bool.and_eq_true, beq_iff_eq] at h
  obtain ⟨_, e2, e8⟩ := h
  unfold leadB at e2 e8
  have h8 : b / 8 % 2 = 0 ∨ b / 8 % 2 = 1 := by omega
  by_cases hc : b / 2 % 2 = 1 ∧ b / 16 % 2 = 1 ∧ q = false
  · rw [if_pos hc] at e8
    exact ⟨hc.1, hc.2.1, hc.2.2, by omega⟩
  · rw [if_neg hc] at e2
    omega

theorem may_zero (kind : Int) : mayB 0 kind true = false := by unfold mayB; simp

/-- What LeadSound asks, of an access of one of the three kinds. -/
structure SoundS (rd : Nat → Option Nat) (n : Nat) (W : Int → Bool) (cr ps va : Nat) (kind : Int) (V : Ver) (A : Nat) (B : Nat) : Prop where
  act : V.act = 1 ∨ V.act = 2
  frame : V.frame = ((A / 64 : Nat) : Int)
  bits : V.bits = (B : Int)
  blt : B < 4294967296
  alt : A < 4294967296
  goes : toF rd n cr 16 ps va kind = (A, true)
  maps : V.act = 1 → mayB B kind true = true
  writes : mayB B 3 true = true → (toF rd n cr 16 ps va 3).2 = true ∧ W V.frame = false ∧ (ps / 4 % 2 = 1 → ∃ b a e d t p, lookF rd n cr 16 va = some (b, a, e, d, t, p) ∧ b / 16 % 2 = 1)
  two : V.act = 2 → B = 0
  watches : V.act = 2 → kind = 3 ∧ (V.soils = true ∨ W V.frame = true)

theorem leadB_lt (b : Nat) (q : Bool) : leadB b q < 4294967296 := by
  have := leadB_vals b q
  omega

theorem over_form (W : Int → Bool) (b : Nat) (a e : Int) (d t : Nat) (p : Int) (pg : Bool) (kind : Int) (hp : a / 64 = p) :
    (kind = 3 ∧ (b / 16 % 2 = 0 ∨ W p = true) ∧ overV W b a e d t p pg kind = ⟨2, p, 0, if pg then tabs d t else [], if pg then e else 0, decide (kind = 3 ∧ b / 16 % 2 = 0), 0, 0⟩) ∨
    (¬ (kind = 3 ∧ (b / 16 % 2 = 0 ∨ W p = true)) ∧ overV W b a e d t p pg kind = ⟨1, p, (leadB b (W p) : Nat), if pg then tabs d t else [], if pg then e else 0, decide (kind = 3 ∧ b / 16 % 2 = 0), 0, 0⟩) := by
  have hq : (if pg = true then p else a / 64) = p := by cases pg <;> simp [hp]
  by_cases h : kind = 3 ∧ (b / 16 % 2 = 0 ∨ W p = true)
  · refine .inl ⟨h.1, h.2, ?_⟩
    unfold overV
    rw [if_pos h, if_pos h]
  · refine .inr ⟨h, ?_⟩
    unfold overV
    rw [if_neg h, if_neg h, hq]

theorem dec_sound (rd : Nat → Option Nat) (n : Nat) (W : Int → Bool) (cr ps va : Nat) (kind : Int) (hk : 1 ≤ kind ∧ kind ≤ 3) (hlt : ∀ a z, rd a = some z → z < 4294967296) (hv : va < 4294967296) :
    ((toF rd n cr 16 ps va kind).2 = false ∧ decF rd n W cr ps va kind = ⟨3, 0, 0, [], 0, false, 4 + kind, va⟩) ∨
    ∃ A B, SoundS rd n W cr ps va kind (decF rd n W cr ps va kind) A B := by
  rcases dec_shape rd n W cr ps va kind with ⟨g1, g2⟩ | ⟨hp, _, hl, ht, hv'⟩ | ⟨b, a, e, d, t, hp, _, hl, hm, ht, hv'⟩
  · refine .inl ⟨g1, ?_⟩
    rw [g2]
    unfold failV
    rw [if_pos hk]
  · refine .inr ?_
    rw [hv']
    have to3 : (toF rd n cr 16 ps va 3).2 = true := by
      unfold toF
      rw [if_pos hp, if_neg (by omega)]
    have hm23 : mayB 23 kind true = true := by
      have : kind = 1 ∨ kind = 2 ∨ kind = 3 := by omega
      rcases this with rfl | rfl | rfl <;> decide +kernel
    rcases over_form W 23 va 0 0 0 ((va / 64 : Nat) : Int) false kind (by omega) with ⟨k3, hw, hE⟩ | ⟨hn, hE⟩
    · rw [hE]
      exact ⟨va, 0, .inr rfl, rfl, rfl, by omega, hv, ht, (fun h => by cases h), (fun h => by rw [may_zero] at h; cases h), fun _ => rfl, fun _ => ⟨k3, .inr (hw.resolve_left (by omega))⟩⟩
    · rw [hE]
      refine ⟨va, leadB 23 (W ((va / 64 : Nat) : Int)), .inl rfl, rfl, rfl, leadB_lt _ _, hv, ht, (fun _ => may_bits 23 _ kind true hk hm23 (fun h => ⟨by omega, by
        have : ¬ (23 / 16 % 2 = 0 ∨ W ((va / 64 : Nat) : Int) = true) := fun hh => hn ⟨h, hh⟩
        simpa using this⟩)), (fun h => ⟨to3, (may_write h).2.2.1, fun h => by omega⟩), (fun h => by cases h), fun h => by cases h⟩
  · refine .inr ?_
    rw [hv']
    obtain ⟨b1, b2, b3⟩ := lookF_lt hlt hl
    rcases over_form W b a e d t ((a / 64 : Nat) : Int) true kind (by omega) with ⟨k3, hw, hE⟩ | ⟨hn, hE⟩
    · rw [hE]
      refine ⟨a, 0, .inr rfl, rfl, rfl, by omega, b2, ht, (fun h => by cases h), (fun h => by rw [may_zero] at h; cases h), fun _ => rfl, fun _ => ⟨k3, ?_⟩⟩
      rcases hw with h | h
      · exact .inl (decide_eq_true ⟨k3, h⟩)
      · exact .inr h
    · rw [hE]
      refine ⟨a, leadB b (W ((a / 64 : Nat) : Int)), .inl rfl, rfl, rfl, leadB_lt _ _, b2, ht, (fun _ => may_bits b _ kind _ hk hm (fun h => by
        have : ¬ (b / 16 % 2 = 0 ∨ W ((a / 64 : Nat) : Int) = true) := fun hh => hn ⟨h, hh⟩
        refine ⟨by have : ¬ b / 16 % 2 = 0 := fun h => this (.inl h)
                   omega, ?_⟩
        cases hW : W ((a / 64 : Nat) : Int)
        · rfl
        · exact absurd (.inr hW) this)), (fun h => ?_), (fun h => by cases h), fun h => by cases h⟩
      obtain ⟨c2, c16, cW, c8⟩ := may_write h
      refine ⟨?_, cW, fun _ => ⟨b, a, e, d, t, a / 64, hl, c16⟩⟩
      unfold toF
      rw [if_neg (by omega), hl]
      simp only
      have hm3 : mayB b 3 (ps % 2 == 1) = true := by
        have hm1 : (!(b % 2 == 0 || (ps % 2 == 1) && b / 4 % 2 == 0)) = true := by
          unfold mayB at hm
          exact (Bool.and_eq_true _ _ ▸ hm).1
        rw [may_three, hm1, c2, c8]
        rfl
      rw [if_pos hm3]
end Go.Proofs.Ytnpnedimgfbnhaa
