/- A verdict hangs on the two entries' frames alone: plain laws. -/
import Derived.Test.YtnpnedimgfbnhaaVLeadP
namespace Go.Proofs.Ytnpnedimgfbnhaa
open Go.RowKit Go.Mum
set_option linter.unusedVariables false
set_option maxRecDepth 100000

theorem look_same {rd rd' : Nat → Option Nat} {n root dirs va b a e d t p : Nat} (h : lookF rd n root dirs va = some (b, a, e, d, t, p)) (hs : ∀ x, x / 64 = d ∨ x / 64 = t → rd' x = rd x) :
    lookF rd' n root dirs va = some (b, a, e, d, t, p) := by
  unfold lookF at h ⊢
  by_cases hd : dirs ≤ va / 1024
  · rw [if_pos hd] at h; cases h
  · rw [if_neg hd] at h ⊢
    cases h1 : rd (dirAt root va) with
    | none => rw [h1] at h; cases h
    | some x =>
      rw [h1] at h
      simp only at h
      by_cases hx : x % 2 = 0
      · rw [if_pos hx] at h; cases h
      · rw [if_neg hx] at h
        cases h2 : rd (tabAt x va) with
        | none => rw [h2] at h; cases h
        | some y =>
          rw [h2] at h
          simp only at h
          by_cases hy : y % 2 = 0
          · rw [if_pos hy] at h; cases h
          · rw [if_neg hy] at h
            by_cases hn : 64 * n ≤ endAt y va
            · rw [if_pos hn] at h; cases h
            · rw [if_neg hn] at h
              have hh := h
              simp only [Option.some.injEq, Prod.mk.injEq] at hh
              obtain ⟨-, -, -, hd1, ht1, -⟩ := hh
              rw [hs _ (.inl hd1), h1]
              simp only
              rw [if_neg hx, hs _ (.inr ht1), h2]
              simp only
              rw [if_neg hy, if_neg hn]
              exact h

theorem rd_set {n x p : Nat} {L : List Int} {z : Int} (hl : L.length = 64 * n) (hx : x / 64 ≠ p / 64) : rdOf n (L.set p z) x = rdOf n L x := by
  unfold rdOf
  by_cases hb : layB n x 4 4 = true
  · have hab := of_decide_eq_true hb
    rw [if_pos hb, if_pos hb]
    have e : ∀ j, j < 4 → (L.set p z).getD (x + j) 0 = L.getD (x + j) 0 := fun j hj => by
      rw [List.getD_eq_getElem?_getD, List.getD_eq_getElem?_getD, List.getElem?_set_ne (by omega)]
    have e0 := e 0 (by omega)
    rw [Nat.add_zero] at e0
    unfold word4
    rw [e0, e 1 (by omega), e 2 (by omega), e 3 (by omega)]
  · rw [if_neg hb, if_neg hb]

theorem mem_tabs {d t : Nat} : (d : Int) ∈ tabs d t ∧ (t : Int) ∈ tabs d t := by
  unfold tabs
  split
  · rename_i h; subst h; simp
  · split <;> simp

theorem toF_flat {rd rd' : Nat → Option Nat} {n cr ps va : Nat} {kind : Int} (hp : ps / 4 % 2 = 0) : toF rd' n cr 16 ps va kind = toF rd n cr 16 ps va kind := by
  unfold toF
  rw [if_pos hp, if_pos hp]

theorem dec_hangs {n p : Nat} {L : List Int} {z : Int} (hl : L.length = 64 * n) {W : Int → Bool} {cr ps va : Nat} {kind : Int}
    (h1 : ((p / 64 : Nat) : Int) ∉ (decF (rdOf n L) n W cr ps va kind).tables) (h2 : ¬ ((decF (rdOf n L) n W cr ps va kind).act = 3 ∧ ps / 4 % 2 = 1)) :
    decF (rdOf n (L.set p z)) n W cr ps va kind = decF (rdOf n L) n W cr ps va kind := by
  rcases dec_shape (rdOf n L) n W cr ps va kind with ⟨g1, g2⟩ | ⟨hp, hk, hlt, ht, hv⟩ | ⟨b, a, e, d, t, hp, hk, hlk, hm, ht, hv⟩
  · have hp : ps / 4 % 2 = 0 := by
      rw [g2, failV_act] at h2
      have : ¬ (ps / 4 % 2 = 1) := fun h => h2 ⟨rfl, h⟩
      omega
    rcases dec_shape (rdOf n (L.set p z)) n W cr ps va kind with ⟨g3, g4⟩ | ⟨_, _, _, ht', _⟩ | ⟨_, _, _, _, _, hp', _⟩
    · rw [g2, g4]
    · rw [toF_flat (rd := rdOf n L) hp] at ht'
      rw [ht'] at g1; cases g1
    · omega
  · rcases dec_shape (rdOf n (L.set p z)) n W cr ps va kind with ⟨g3, g4⟩ | ⟨_, _, _, ht', hv'⟩ | ⟨_, _, _, _, _, hp', _⟩
    · rw [toF_flat (rd := rdOf n L) hp, ht] at g3; cases g3
    · rw [hv, hv']
    · omega
  · have htab : (decF (rdOf n L) n W cr ps va kind).tables = tabs d t := by rw [hv]; rfl
    rw [htab] at h1
    have hd : p / 64 ≠ d := fun h => h1 (by rw [h]; exact mem_tabs.1)
    have ht2 : p / 64 ≠ t := fun h => h1 (by rw [h]; exact mem_tabs.2)
    have hl' := look_same (rd' := rdOf n (L.set p z)) hlk (fun x hx => rd_set hl (by omega))
    rcases dec_shape (rdOf n (L.set p z)) n W cr ps va kind with ⟨g3, g4⟩ | ⟨hp', _⟩ | ⟨b', a', e', d', t', _, _, hl2, _, _, hv'⟩
    · unfold toF at g3
      rw [if_neg (by omega), hl'] at g3
      simp only at g3
      rw [if_pos hm] at g3
      cases g3
    · omega
    · rw [hl'] at hl2
      simp only [Option.some.injEq, Prod.mk.injEq] at hl2
      obtain ⟨rfl, rfl, rfl, rfl, rfl, -⟩ := hl2
      rw [hv, hv']
end Go.Proofs.Ytnpnedimgfbnhaa
