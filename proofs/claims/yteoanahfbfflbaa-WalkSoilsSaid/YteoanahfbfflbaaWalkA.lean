/- Rows of a few words that came in; the start that the statements share. -/
import Derived.Test.YteoanahfbfflbaaWalk9
namespace Go.Proofs.Yteoanahfbfflbaa
open Go.RowKit Go.Mum
set_option linter.unusedVariables false

theorem three_of_fits {w : World} {B n : Nat} {c : Array Value} (h : Fits Try.prog w B n 54 c.toList) : ∃ z0 z1 z2 : Nat, c = #[.int .u32 z0, .int .u32 z1, .int .u32 z2] ∧ z0 < 4294967296 ∧ z1 < 4294967296 ∧ z2 < 4294967296 := by
  obtain ⟨m, hl, hf⟩ := h.array Try.underlying54
  have hlen : c.toList.length = 3 := hl
  obtain ⟨l⟩ := c
  match l, hlen with
  | [d0, d1, d2], _ =>
    have q1 : Try.prog.cellsOf 26 = 1 := by kernel_rfl
    have f0 := hf 0 (by omega)
    have f1 := hf 1 (by omega)
    have f2 := hf 2 (by omega)
    simp only [q1] at f0 f1 f2
    obtain ⟨z0, e0, g0⟩ := f0.int Try.underlying26
    obtain ⟨z1, e1, g1⟩ := f1.int Try.underlying26
    obtain ⟨z2, e2, g2⟩ := f2.int Try.underlying26
    simp at e0 e1 e2
    subst e0 e1 e2
    have h0 := wf_u32 g0
    have h1 := wf_u32 g1
    have h2 := wf_u32 g2
    exact ⟨z0.toNat, z1.toNat, z2.toNat, by rw [Int.toNat_of_nonneg h0.1, Int.toNat_of_nonneg h1.1, Int.toNat_of_nonneg h2.1], by omega, by omega, by omega⟩

theorem four_of_fits {w : World} {B n : Nat} {c : Array Value} (h : Fits Try.prog w B n 66 c.toList) : ∃ z0 z1 z2 z3 : Nat, c = #[.int .u32 z0, .int .u32 z1, .int .u32 z2, .int .u32 z3] ∧ z0 < 4294967296 ∧ z1 < 4294967296 ∧ z2 < 4294967296 ∧ z3 < 4294967296 := by
  obtain ⟨m, hl, hf⟩ := h.array Try.underlying66
  have hlen : c.toList.length = 4 := hl
  obtain ⟨l⟩ := c
  match l, hlen with
  | [d0, d1, d2, d3], _ =>
    have q1 : Try.prog.cellsOf 26 = 1 := by kernel_rfl
    have f0 := hf 0 (by omega)
    have f1 := hf 1 (by omega)
    have f2 := hf 2 (by omega)
    have f3 := hf 3 (by omega)
    simp only [q1] at f0 f1 f2 f3
    obtain ⟨z0, e0, g0⟩ := f0.int Try.underlying26
    obtain ⟨z1, e1, g1⟩ := f1.int Try.underlying26
    obtain ⟨z2, e2, g2⟩ := f2.int Try.underlying26
    obtain ⟨z3, e3, g3⟩ := f3.int Try.underlying26
    simp at e0 e1 e2 e3
    subst e0 e1 e2 e3
    have h0 := wf_u32 g0
    have h1 := wf_u32 g1
    have h2 := wf_u32 g2
    have h3 := wf_u32 g3
    exact ⟨z0.toNat, z1.toNat, z2.toNat, z3.toNat, by rw [Int.toNat_of_nonneg h0.1, Int.toNat_of_nonneg h1.1, Int.toNat_of_nonneg h2.1, Int.toNat_of_nonneg h3.1], by omega, by omega, by omega, by omega⟩

theorem five_of_fits {w : World} {B n : Nat} {c : Array Value} (h : Fits Try.prog w B n 80 c.toList) : ∃ z0 z1 z2 z3 z4 : Nat, c = #[.int .u32 z0, .int .u32 z1, .int .u32 z2, .int .u32 z3, .int .u32 z4] ∧ z0 < 4294967296 ∧ z1 < 4294967296 ∧ z2 < 4294967296 ∧ z3 < 4294967296 ∧ z4 < 4294967296 := by
  obtain ⟨m, hl, hf⟩ := h.array Try.underlying80
  have hlen : c.toList.length = 5 := hl
  obtain ⟨l⟩ := c
  match l, hlen with
  | [d0, d1, d2, d3, d4], _ =>
    have q1 : Try.prog.cellsOf 26 = 1 := by kernel_rfl
    have f0 := hf 0 (by omega)
    have f1 := hf 1 (by omega)
    have f2 := hf 2 (by omega)
    have f3 := hf 3 (by omega)
    have f4 := hf 4 (by omega)
    simp only [q1] at f0 f1 f2 f3 f4
    obtain ⟨z0, e0, g0⟩ := f0.int Try.underlying26
    obtain ⟨z1, e1, g1⟩ := f1.int Try.underlying26
    obtain ⟨z2, e2, g2⟩ := f2.int Try.underlying26
    obtain ⟨z3, e3, g3⟩ := f3.int Try.underlying26
    obtain ⟨z4, e4, g4⟩ := f4.int Try.underlying26
    simp at e0 e1 e2 e3 e4
    subst e0 e1 e2 e3 e4
    have h0 := wf_u32 g0
    have h1 := wf_u32 g1
    have h2 := wf_u32 g2
    have h3 := wf_u32 g3
    have h4 := wf_u32 g4
    exact ⟨z0.toNat, z1.toNat, z2.toNat, z3.toNat, z4.toNat, by rw [Int.toNat_of_nonneg h0.1, Int.toNat_of_nonneg h1.1, Int.toNat_of_nonneg h2.1, Int.toNat_of_nonneg h3.1, Int.toNat_of_nonneg h4.1], by omega, by omega, by omega, by omega, by omega⟩

theorem EntsAt.keep0 {w x : World} {s : Option Addr} {es : List Ent} (h : EntsAt w s es) (hk : Keep [] w x) : EntsAt x s es := by
  rcases h with h | ⟨lb, off, e, hl, h⟩
  · exact .inl h
  · exact .inr ⟨lb, off, e, by have := hk.size; omega, fun i hi => (h i hi).keep hk (by simp)⟩

/-- What Made answers in a statement. -/
theorem made_start {a0 : Int} {s1 : Option Addr} {len1 cap1 n1 : Nat} {w : World} (w0 : (Lit.int .u8 a0).wf = true) (w1 : Fits Try.prog w maxLen n1 53 [.slice s1 len1 cap1]) :
    ∃ (n : Nat) (es : List Ent), 4 ≤ n ∧ n ≤ 10 ∧ ∀ x, Keep [] w x → Calls Try.prog 30 #[.int .u8 a0, .slice s1 len1 cap1] x (MadePostW n es x) := by
  have h0 := wf_u8 w0
  obtain ⟨z, rfl⟩ : ∃ z : Nat, a0 = z := ⟨a0.toNat, by omega⟩
  obtain ⟨es, rfl, hE, hel⟩ := ents_of_fits w1
  exact ⟨4 + z % 7, es, by omega, by omega, fun x hx => wmade_at (hE.keep0 hx) hel z (by omega)⟩
end Go.Proofs.Yteoanahfbfflbaa
