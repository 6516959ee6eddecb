/- Arguments as they come in: bytes, pairs of numbers. -/
import Derived.Test.YtpinoejckagjbaaFits
import Derived.Test.YtpinoejckagjbaaBytes
namespace Go.Proofs.Ytpinoejckagjbaa
open Go.RowKit Go.Mum
set_option maxRecDepth 100000

/-- A slice of bytes that came in, as a list. -/
theorem row_of_fits {w : World} {B n : Nat} {a : Option Addr} {len cap : Nat} (h : Fits Try.prog w B n 48 [.slice a len cap]) : ∃ L : List Int, len = L.length ∧ Row w a cap L ∧ (len ≤ B ∨ len = 0) := by
  rcases h.slice Try.underlying48 with ⟨rfl, rfl, rfl⟩ | ⟨b, m, rfl, h1, h2, h3, h4⟩
  · exact ⟨[], rfl, Row.nil w, .inr rfl⟩
  · rcases h.ints Try.underlying48 Try.underlying5 (by kernel_rfl) with rfl | ⟨b', off, e, h0, h1', h2', h3', h4', z, hz⟩
    · exact ⟨[], rfl, ⟨(by intro x hx; cases hx), ⟨h1, h2⟩, .inr (.inl ⟨rfl, _, rfl⟩)⟩, .inr rfl⟩
    · cases e
      refine ⟨(List.range len).map z, by simp, ⟨?_, ⟨by simp; exact h1, h2⟩, .inr (.inr ⟨b', off, rfl, ?_⟩)⟩, .inl h3⟩
      · intro x hx
        obtain ⟨i, hi, rfl⟩ := List.mem_map.1 hx
        have := wf_u8 (hz i (List.mem_range.1 hi)).2
        omega
      · intro i hi
        simp at hi
        rw [(hz i hi).1]
        simp [List.getD, hi]

theorem row_old {w : World} {a : Option Addr} {c : Nat} {L : List Int} (h : Row w a c L) {g : Nat} (hg : w.heap.size ≤ g) : L = [] ∨ ∀ b, a = some b → b.block ≠ g := by
  rcases h.at' with ⟨_, h, _⟩ | ⟨h, _⟩ | ⟨b, off, rfl, hc⟩
  · exact .inl h
  · exact .inl h
  · by_cases h0 : L = []
    · exact .inl h0
    · right
      have := World.block_lt_of_cell? w _ (hc 0 (List.length_pos_iff.2 h0))
      simp only [Option.some.injEq, forall_eq']
      simp at this
      omega

/-- The pair of addresses. -/
theorem two_of_fits {w : World} {B n : Nat} {c : Array Value} (h : Fits Try.prog w B n 115 c.toList) : ∃ z0 z1 : Nat, c = #[.int .u32 z0, .int .u32 z1] ∧ z0 < 4294967296 ∧ z1 < 4294967296 := by
  obtain ⟨m, hl, hf⟩ := h.array Try.underlying115
  have hlen : c.toList.length = 2 := hl.trans (by kernel_rfl)
  obtain ⟨l⟩ := c
  match l, hlen with
  | [d0, d1], _ =>
    have q1 : Try.prog.cellsOf 22 = 1 := by kernel_rfl
    have f0 := hf 0 (by omega)
    have f1 := hf 1 (by omega)
    simp only [q1] at f0 f1
    obtain ⟨z0, e0, g0⟩ := f0.int Try.underlying22
    obtain ⟨z1, e1, g1⟩ := f1.int Try.underlying22
    simp at e0 e1
    subst e0 e1
    have h0 := wf_u32 g0
    have h1 := wf_u32 g1
    exact ⟨z0.toNat, z1.toNat, by rw [Int.toNat_of_nonneg h0.1, Int.toNat_of_nonneg h1.1], by omega, by omega⟩

end Go.Proofs.Ytpinoejckagjbaa
