/- Contracts of the functions that the law reaches, walked, and the plain laws on them (several texts in one). -/
import Derived.Test.YtnpnedimgfbnhaaM21
import Derived.Test.YtnpnedimgfbnhaaM17

/- The document's verdict, whatever the access. -/
namespace Go.Proofs.Ytnpnedimgfbnhaa
open Go.RowKit Go.Mum
set_option linter.unusedVariables false
set_option maxRecDepth 100000

theorem lookF_page {rd : Nat → Option Nat} {n root dirs va : Nat} {b a e d t p : Nat} (h : lookF rd n root dirs va = some (b, a, e, d, t, p)) : p = a / 64 := by
  unfold lookF at h
  split at h
  · cases h
  · split at h
    · cases h
    · split at h
      · cases h
      · split at h
        · cases h
        · split at h
          · cases h
          · split at h
            · cases h
            · simp only [Option.some.injEq, Prod.mk.injEq] at h
              obtain ⟨_, rfl, _, _, _, rfl⟩ := h
              rfl

theorem dec_tables (rd : Nat → Option Nat) (n : Nat) (W : Int → Bool) (cr ps va : Nat) (kind : Int) : (decF rd n W cr ps va kind).tables.length ≤ 2 := by
  unfold decF
  cases h : wayL rd n cr ps va kind with
  | none => unfold decV failV; dsimp only; split <;> simp
  | some r =>
    obtain ⟨b, a, e, d, t, p⟩ := r
    show (overV W b a e d t p (decide (ps / 4 % 2 = 1)) kind).tables.length ≤ 2
    unfold overV
    dsimp only
    split
    · exact (tabs_len d t).2
    · simp

theorem toF_kind {rd : Nat → Option Nat} {n cr ps va : Nat} {kind : Int} (h : (toF rd n cr 16 ps va kind).2 = true) : 1 ≤ kind ∧ kind ≤ 3 := by
  unfold toF at h
  split at h
  · split at h
    · cases h
    · omega
  · split at h
    · cases h
    · split at h
      · rename_i hm
        by_cases hk : kind < 1 ∨ 3 < kind
        · rw [mayB_kind hk] at hm; cases hm
        · omega
      · cases h

theorem rdecide_at {w : World} {s : Value} {n : Nat} {rd : Nat → Option Nat} {W : Int → Bool} {m1 m2 : Value} (h : DMem w s n rd) (hw : DWat w (.agg #[m1, m2]) W) (hlt : ∀ a z, rd a = some z → z < 4294967296) (f : Nat → Value) (ps cr va : Nat) (kind : Int) (hp : ps < 4294967296) (hc : cr < 4294967296) (hv : va < 4294967296) (hk1 : -9223372036854775808 ≤ kind) (hk2 : kind ≤ 9223372036854775807) :
    Calls Try.prog 15 #[.agg #[s], .agg #[f 0, f 1, f 2, f 3, f 4, f 5, f 6, f 7, f 8, .int .u32 ps, .int .u32 cr, f 11, f 12, f 13, f 14, f 15, f 16, f 17, f 18], .agg #[m1, m2], .int .u32 va, .int .i64 kind] w (VerPost (decF rd n W cr ps va kind) w) := by
  cases hq : (toF rd n cr 16 ps va kind).2 with
  | false =>
    have := rdecide_no (W := W) (m1 := m1) (m2 := m2) h f ps cr va kind hp hc hv hk1 hk2 hq
    exact this
  | true =>
    obtain ⟨k1, k2⟩ := toF_kind hq
    rcases (by omega : ps / 4 % 2 = 0 ∨ ps / 4 % 2 = 1) with hpg | hpg
    · have e1 : toF rd n cr 16 ps va kind = (va, true) := by
        unfold toF at hq ⊢
        rw [if_pos hpg] at hq ⊢
        split at hq
        · cases hq
        · rename_i hn; rw [if_neg hn]
      have e2 : wayL rd n cr ps va kind = some (23, va, 0, 0, 0, va / 64) := by
        unfold wayL
        rw [e1, if_neg (by simp), if_neg (by omega)]
      unfold decF
      rw [e2]
      exact rdecide_yes h hw f ps cr va kind hp hc hv k1 k2 23 va 0 0 0 (va / 64) e2 (by omega) e1 hv rfl (fun _ => ⟨rfl, rfl⟩) (fun h => by omega) (by omega)
    · cases hl : lookF rd n cr 16 va with
      | none =>
        unfold toF at hq
        rw [if_neg (by omega), hl] at hq
        cases hq
      | some r =>
        obtain ⟨b, a, e, d, t, p⟩ := r
        obtain ⟨b1, b2, b3⟩ := lookF_lt hlt hl
        have e1 : toF rd n cr 16 ps va kind = (a, true) := by
          unfold toF at hq ⊢
          rw [if_neg (by omega), hl] at hq ⊢
          simp only at hq ⊢
          split at hq
          · rename_i hn; rw [if_pos hn]
          · cases hq
        have e2 : wayL rd n cr ps va kind = some (b, a, e, d, t, p) := by
          unfold wayL
          rw [e1, if_neg (by simp), if_pos hpg]
          exact hl
        unfold decF
        rw [e2]
        exact rdecide_yes h hw f ps cr va kind hp hc hv k1 k2 b a e d t p e2 (by omega) e1 b2 (lookF_page hl) (fun h => by omega) (fun _ => hl) b3
end Go.Proofs.Ytnpnedimgfbnhaa

/- Three and four numbers that came in. -/
namespace Go.Proofs.Ytnpnedimgfbnhaa
open Go.RowKit Go.Mum
set_option maxRecDepth 100000

theorem three_of_fits {w : World} {B n : Nat} {c : Array Value} (h : Fits Try.prog w B n 72 c.toList) : ∃ z0 z1 z2 : Nat, c = #[.int .u32 z0, .int .u32 z1, .int .u32 z2] ∧ z0 < 4294967296 ∧ z1 < 4294967296 ∧ z2 < 4294967296 := by
  obtain ⟨m, hl, hf⟩ := h.array Try.underlying72
  have hlen : c.toList.length = 3 := hl.trans (by kernel_rfl)
  obtain ⟨l⟩ := c
  match l, hlen with
  | [d0, d1, d2], _ =>
    have q1 : Try.prog.cellsOf 22 = 1 := by kernel_rfl
    have f0 := hf 0 (by omega)
    have f1 := hf 1 (by omega)
    have f2 := hf 2 (by omega)
    simp only [q1] at f0 f1 f2
    obtain ⟨z0, e0, g0⟩ := f0.int Try.underlying22
    obtain ⟨z1, e1, g1⟩ := f1.int Try.underlying22
    obtain ⟨z2, e2, g2⟩ := f2.int Try.underlying22
    simp at e0 e1 e2
    subst e0 e1 e2
    have h0 := wf_u32 g0
    have h1 := wf_u32 g1
    have h2 := wf_u32 g2
    exact ⟨z0.toNat, z1.toNat, z2.toNat, by rw [Int.toNat_of_nonneg h0.1, Int.toNat_of_nonneg h1.1, Int.toNat_of_nonneg h2.1], by omega, by omega, by omega⟩

theorem four_of_fits {w : World} {B n : Nat} {c : Array Value} (h : Fits Try.prog w B n 74 c.toList) : ∃ z0 z1 z2 z3 : Nat, c = #[.int .u32 z0, .int .u32 z1, .int .u32 z2, .int .u32 z3] ∧ z0 < 4294967296 ∧ z1 < 4294967296 ∧ z2 < 4294967296 ∧ z3 < 4294967296 := by
  obtain ⟨m, hl, hf⟩ := h.array Try.underlying74
  have hlen : c.toList.length = 4 := hl.trans (by kernel_rfl)
  obtain ⟨l⟩ := c
  match l, hlen with
  | [d0, d1, d2, d3], _ =>
    have q1 : Try.prog.cellsOf 22 = 1 := by kernel_rfl
    have f0 := hf 0 (by omega)
    have f1 := hf 1 (by omega)
    have f2 := hf 2 (by omega)
    have f3 := hf 3 (by omega)
    simp only [q1] at f0 f1 f2 f3
    obtain ⟨z0, e0, g0⟩ := f0.int Try.underlying22
    obtain ⟨z1, e1, g1⟩ := f1.int Try.underlying22
    obtain ⟨z2, e2, g2⟩ := f2.int Try.underlying22
    obtain ⟨z3, e3, g3⟩ := f3.int Try.underlying22
    simp at e0 e1 e2 e3
    subst e0 e1 e2 e3
    have h0 := wf_u32 g0
    have h1 := wf_u32 g1
    have h2 := wf_u32 g2
    have h3 := wf_u32 g3
    exact ⟨z0.toNat, z1.toNat, z2.toNat, z3.toNat, by rw [Int.toNat_of_nonneg h0.1, Int.toNat_of_nonneg h1.1, Int.toNat_of_nonneg h2.1, Int.toNat_of_nonneg h3.1], by omega, by omega, by omega, by omega⟩

end Go.Proofs.Ytnpnedimgfbnhaa
