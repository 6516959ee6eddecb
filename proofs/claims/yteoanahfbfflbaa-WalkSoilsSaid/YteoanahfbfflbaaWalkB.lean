/- A memory whose bytes turned elsewhere leads as before. -/
import Derived.Test.YteoanahfbfflbaaWalkA
namespace Go.Proofs.Yteoanahfbfflbaa
open Go.RowKit Go.Mum
set_option linter.unusedVariables false

theorem mem_of_ram {w : World} {r fb g n : Nat} {L : List Int} (h : RamAt w r fb g (List.range n) L) (hl : L.length = 64 * n) (hn : n ≤ 512) : Mem w (.pointer (some ⟨r, 0, none⟩)) n (rdOf n L) := by
  refine ⟨fun x hx a ha => ?_, fun x hx => ?_, fun a z hz => rdOf_lt h.bytes hl hz, hn⟩
  · obtain ⟨e1, e2⟩ := wordAt_rd h.bytes hl a
    rw [← e1, ← e2]
    have hr := h.keep0 hx
    unfold wordAt
    by_cases hy : a % 4 = 0 ∧ a < 64 * n
    · have hb : layB n a 4 4 = true := layB_yes (by omega)
      rw [if_pos hb, hb]
      refine (rword_yes hr a hy.1 (by rw [List.length_range]; exact hy.2)).mono ?_
      rintro e w' ⟨rfl, m, rfl⟩
      exact ⟨by rw [pl_range hy.2], (Keep.refl _ _).drewN _⟩
    · have hb : layB n a 4 4 = false := layB_no (by omega)
      rw [if_neg (by rw [hb]; simp), hb]
      refine (rword_no hr.sz a ha (by rw [List.length_range]; exact hy)).mono ?_
      rintro e w' ⟨rfl, rfl⟩
      exact ⟨rfl, Keep.refl _ _⟩
  · have := rsize_any (h.keep0 hx).sz
    rw [List.length_range] at this
    exact this

theorem rd_other {n p z a : Nat} {L : List Int} (hl : L.length = 64 * n) (hp : p % 4 = 0 ∧ p + 4 ≤ 64 * n) (ha : a ≠ p) : rdOf n (laid n L p (le4 z) 4) a = rdOf n L a := by
  have hm : (le4 z).length = 4 := rfl
  unfold rdOf laid
  rw [hm, if_pos (layB_yes hp)]
  by_cases hb : layB n a 4 4 = true
  · have hab := of_decide_eq_true hb
    rw [if_pos hb, if_pos hb]
    have e : ∀ j, j < 4 → (splice L p (le4 z)).getD (a + j) 0 = L.getD (a + j) 0 := fun j hj => getD_splice_out (by omega) (by omega)
    have e0 := e 0 (by omega)
    rw [Nat.add_zero] at e0
    unfold word4
    rw [e0, e 1 (by omega), e 2 (by omega), e 3 (by omega)]
  · rw [if_neg hb, if_neg hb]

theorem look_same {rd rd' : Nat → Option Nat} {n root dirs va b a e d t p : Nat} (h : lookF rd n root dirs va = some (b, a, e, d, t, p)) (hs : ∀ x, x / 64 = d ∨ x / 64 = t → rd' x = rd x) :
    lookF rd' n root dirs va = some (b, a, e, d, t, p) := by
  unfold lookF at h ⊢
  by_cases hd : dirs ≤ va / 1024
  · rw [if_pos hd] at h; cases h
  · rw [if_neg hd] at h ⊢
    cases h1 : rd (dirAt root va) with
    | none => rw [h1] at h; cases h
    | some x =>
      rw [h1] at h
      simp only at h
      by_cases hx : x % 2 = 0
      · rw [if_pos hx] at h; cases h
      · rw [if_neg hx] at h
        cases h2 : rd (tabAt x va) with
        | none => rw [h2] at h; cases h
        | some y =>
          rw [h2] at h
          simp only at h
          by_cases hy : y % 2 = 0
          · rw [if_pos hy] at h; cases h
          · rw [if_neg hy] at h
            by_cases hn : 64 * n ≤ endAt y va
            · rw [if_pos hn] at h; cases h
            · rw [if_neg hn] at h
              have hh := h
              simp only [Option.some.injEq, Prod.mk.injEq] at hh
              obtain ⟨-, -, -, hd1, ht1, -⟩ := hh
              rw [hs _ (.inl hd1), h1]
              simp only
              rw [if_neg hx, hs _ (.inr ht1), h2]
              simp only
              rw [if_neg hy, if_neg hn]
              exact h

theorem look_frames {rd : Nat → Option Nat} {n root dirs va b a e d t p : Nat} (h : lookF rd n root dirs va = some (b, a, e, d, t, p)) : e / 64 = t ∧ e % 4 = 0 ∧ (∃ x, rd e = some x ∧ b = b) := by
  unfold lookF at h
  by_cases hd : dirs ≤ va / 1024
  · rw [if_pos hd] at h; cases h
  · rw [if_neg hd] at h
    cases h1 : rd (dirAt root va) with
    | none => rw [h1] at h; cases h
    | some x =>
      rw [h1] at h
      simp only at h
      by_cases hx : x % 2 = 0
      · rw [if_pos hx] at h; cases h
      · rw [if_neg hx] at h
        cases h2 : rd (tabAt x va) with
        | none => rw [h2] at h; cases h
        | some y =>
          rw [h2] at h
          simp only at h
          by_cases hy : y % 2 = 0
          · rw [if_pos hy] at h; cases h
          · rw [if_neg hy] at h
            by_cases hn : 64 * n ≤ endAt y va
            · rw [if_pos hn] at h; cases h
            · rw [if_neg hn] at h
              simp only [Option.some.injEq, Prod.mk.injEq] at h
              obtain ⟨-, -, rfl, -, rfl, -⟩ := h
              exact ⟨rfl, by unfold tabAt; omega, y, h2, rfl⟩
end Go.Proofs.Yteoanahfbfflbaa
