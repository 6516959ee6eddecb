/- What a soiled entry turns of a way. -/
import Derived.Test.YteoanahfbfflbaaWalkC
namespace Go.Proofs.Yteoanahfbfflbaa
open Go.RowKit Go.Mum
set_option linter.unusedVariables false

/-- Two memories whose words differ in bit 4 alone, and only upward. -/
def Sim (rd rd' : Nat → Option Nat) : Prop := ∀ a, (rd a = none ∧ rd' a = none) ∨ ∃ z z', rd a = some z ∧ rd' a = some z' ∧ z' / 32 = z / 32 ∧ z' % 16 = z % 16

theorem rd_at {n p z : Nat} {L : List Int} (hl : L.length = 64 * n) (hp : p % 4 = 0 ∧ p + 4 ≤ 64 * n) : rdOf n (laid n L p (le4 z) 4) p = some z := by
  have hm : (le4 z).length = 4 := rfl
  unfold rdOf laid
  rw [hm, if_pos (layB_yes hp), if_pos (layB_yes hp), word4_splice (by omega)]
  simp

theorem rd_ok {n a z : Nat} {L : List Int} (h : rdOf n L a = some z) : a % 4 = 0 ∧ a + 4 ≤ 64 * n := by
  unfold rdOf at h
  split at h
  · next hb => exact of_decide_eq_true hb
  · cases h

theorem sim_refl (rd : Nat → Option Nat) : Sim rd rd := fun a => by
  cases h : rd a with
  | none => exact .inl ⟨rfl, rfl⟩
  | some z => exact .inr ⟨z, z, rfl, rfl, rfl, rfl⟩

theorem soil_sim {n a : Nat} {L : List Int} (hl : L.length = 64 * n) :
    (soilL n L a).length = L.length ∧ Sim (rdOf n L) (rdOf n (soilL n L a)) ∧ ∀ z', rdOf n (soilL n L a) a = some z' → z' / 16 % 2 = 1 := by
  unfold soilL
  cases hz : rdOf n L a with
  | none => exact ⟨rfl, sim_refl _, fun z' h => by simp only at h; rw [hz] at h; cases h⟩
  | some z =>
    simp only
    by_cases hd : z / 16 % 2 = 0
    · rw [if_pos hd]
      refine ⟨laid_length hl, fun b => ?_, fun z' h => ?_⟩
      · by_cases hb : b = a
        · subst hb
          exact .inr ⟨z, z + 16, hz, rd_at hl (rd_ok hz), by omega, by omega⟩
        · rw [rd_other hl (rd_ok hz) hb]
          exact sim_refl _ b
      · rw [rd_at hl (rd_ok hz)] at h
        cases h
        omega
    · rw [if_neg hd]
      exact ⟨rfl, sim_refl _, fun z' h => by rw [hz] at h; cases h; omega⟩

theorem refBits_sim {x x' y y' : Nat} (hx : x' % 16 = x % 16) (hy : y' % 16 = y % 16) : refBits x' y' % 16 = refBits x y % 16 ∧ refBits x y < 32 ∧ refBits x' y' < 32 ∧ (y' / 16 % 2 = 1 → refBits x' y' / 16 % 2 = 1) := by
  have e1 : x' / 2 % 2 = x / 2 % 2 := by omega
  have e2 : x' / 4 % 2 = x / 4 % 2 := by omega
  have e3 : x' / 8 % 2 = x / 8 % 2 := by omega
  have f1 : y' / 2 % 2 = y / 2 % 2 := by omega
  have f2 : y' / 4 % 2 = y / 4 % 2 := by omega
  have f3 : y' / 8 % 2 = y / 8 % 2 := by omega
  unfold refBits
  rw [e1, e2, e3, f1, f2, f3]
  have k1 : (if x / 2 % 2 = 1 ∧ y / 2 % 2 = 1 then 2 else 0) = 0 ∨ (if x / 2 % 2 = 1 ∧ y / 2 % 2 = 1 then 2 else 0) = 2 := by split <;> simp
  have k2 : (if x / 4 % 2 = 1 ∧ y / 4 % 2 = 1 then 4 else 0) = 0 ∨ (if x / 4 % 2 = 1 ∧ y / 4 % 2 = 1 then 4 else 0) = 4 := by split <;> simp
  have k3 : (if x / 8 % 2 = 1 ∨ y / 8 % 2 = 1 then 8 else 0) = 0 ∨ (if x / 8 % 2 = 1 ∨ y / 8 % 2 = 1 then 8 else 0) = 8 := by split <;> simp
  generalize (if x / 2 % 2 = 1 ∧ y / 2 % 2 = 1 then 2 else 0) = p1 at *
  generalize (if x / 4 % 2 = 1 ∧ y / 4 % 2 = 1 then 4 else 0) = p2 at *
  generalize (if x / 8 % 2 = 1 ∨ y / 8 % 2 = 1 then 8 else 0) = p3 at *
  clear e1 e2 e3 f1 f2 f3
  have k4 : (if y / 16 % 2 = 1 then 16 else 0) = 0 ∨ (if y / 16 % 2 = 1 then 16 else 0) = 16 := by split <;> simp
  have k5 : (if y' / 16 % 2 = 1 then 16 else 0) = 0 ∨ (if y' / 16 % 2 = 1 then 16 else 0) = 16 := by split <;> simp
  have k6 : y' / 16 % 2 = 1 → (if y' / 16 % 2 = 1 then 16 else 0) = 16 := fun h => if_pos h
  generalize (if y / 16 % 2 = 1 then 16 else 0) = p4 at *
  generalize (if y' / 16 % 2 = 1 then 16 else 0) = p5 at *
  refine ⟨by omega, by omega, by omega, fun h => ?_⟩
  have := k6 h
  omega

theorem look_sim {rd rd' : Nat → Option Nat} (n root dirs va : Nat) (hs : Sim rd rd') :
    (lookF rd n root dirs va = none ∧ lookF rd' n root dirs va = none) ∨
    ∃ b b' a e d t p, lookF rd n root dirs va = some (b, a, e, d, t, p) ∧ lookF rd' n root dirs va = some (b', a, e, d, t, p) ∧ b' % 16 = b % 16 ∧ b < 32 ∧ b' < 32 ∧ (∀ y, rd' e = some y → y / 16 % 2 = 1 → b' / 16 % 2 = 1) := by
  unfold lookF
  by_cases hd : dirs ≤ va / 1024
  · left; rw [if_pos hd]; exact ⟨rfl, if_pos hd⟩
  · rw [if_neg hd]
    rcases hs (dirAt root va) with ⟨h1, h1'⟩ | ⟨x, x', h1, h1', hx1, hx2⟩
    · left; rw [h1, h1']; exact ⟨rfl, if_neg hd⟩
    · rw [h1, h1']
      have ht : tabAt x' va = tabAt x va := by unfold tabAt; omega
      by_cases hx : x % 2 = 0
      · left; simp [hx, show x' % 2 = 0 by omega]
      · rcases hs (tabAt x va) with ⟨h2, h2'⟩ | ⟨y, y', h2, h2', hy1, hy2⟩
        · left; simp [h2, h2', ht]
        · have he : endAt y' va = endAt y va := by unfold endAt; omega
          by_cases hy : y % 2 = 0
          · left; simp [h2, h2', ht, hy, show y' % 2 = 0 by omega]
          · by_cases hn : 64 * n ≤ endAt y va
            · left; simp [h2, h2', ht, he, hn]
            · right
              obtain ⟨q1, q2, q3, q4⟩ := refBits_sim hx2 hy2
              refine ⟨refBits x y, refBits x' y', endAt y va, tabAt x va, dirAt root va / 64, tabAt x va / 64, endAt y va / 64, ?_, ?_, q1, q2, q3, ?_⟩
              · simp only [h2, if_neg hx, if_neg hy, if_neg hn]
              · simp only [ht, h2', he, if_neg hd, if_neg hn, if_neg (show ¬ x' % 2 = 0 by omega), if_neg (show ¬ y' % 2 = 0 by omega)]
              · intro y'' h
                rw [h2'] at h
                cases h
                exact q4

theorem andNot16 (b : Nat) (hb : b < 32) : bits .andNot .u32 (b : Int) 16 = ((b % 16 : Nat) : Int) := by
  have : ∀ b : Fin 32, bits .andNot .u32 ((b : Nat) : Int) 16 = (((b : Nat) % 16 : Nat) : Int) := by decide +kernel
  exact this ⟨b, hb⟩
theorem and16 (b : Nat) (hb : b < 32) (h : b / 16 % 2 = 1) : bits .and .u32 (b : Int) 16 = 16 := bit1 (i := 4) (by omega) rfl (by decide) (by show ¬ b / 16 % 2 = 0; omega)
end Go.Proofs.Yteoanahfbfflbaa
