/- The law WireGets, walked; what came in as bytes. -/
import Derived.Test.YtffpccijmgjofaaWire2
import Derived.Test.YtffpccijmgjofaaFits
namespace Go.Proofs.Ytffpccijmgjofaa
open Go.RowKit Go.Mum

theorem getD_map_range (z : Nat → Int) (n i : Nat) (hi : i < n) : ((List.range n).map z).getD i 0 = z i := by
  simp [List.getD, hi]

/-- A slice of bytes that came in. -/
theorem row_of_fits {w : World} {B n : Nat} {a : Option Addr} {len cap : Nat} (h : Fits Try.prog w B n 22 [.slice a len cap]) : ∃ L : List Int, len = L.length ∧ Row w a cap L ∧ (len = 0 ∨ len ≤ B) := by
  rcases h.ints Try.underlying22 Try.underlying5 (by kernel_rfl) with rfl | ⟨b, off, rfl, h0, h1, h2, h3, _, z, hz⟩
  · rcases h.slice Try.underlying22 with ⟨rfl, _, rfl⟩ | ⟨b, m, rfl, h1, h2, _⟩
    · exact ⟨[], rfl, Row.nil w, .inl rfl⟩
    · exact ⟨[], rfl, ⟨(by intro x hx; cases hx), ⟨h1, h2⟩, .inr (.inl ⟨rfl, _, rfl⟩)⟩, .inl rfl⟩
  · refine ⟨(List.range len).map z, by simp, ⟨?_, ⟨by simpa using h1, h2⟩, .inr (.inr ⟨b, off, rfl, fun i hi => ?_⟩)⟩, .inr h3⟩
    · intro x hx
      obtain ⟨i, hi, rfl⟩ := List.mem_map.1 hx
      have := wf_u8 (hz i (by simpa using hi)).2
      omega
    · have hi' : i < len := by simpa using hi
      rw [getD_map_range _ _ _ hi']
      exact (hz i hi').1

set_option maxRecDepth 100000 in
theorem WireGets_walk (s0 : Option Addr) (len0 cap0 n0 : Nat) (w : World) (w0 : Fits Try.prog w maxLen n0 22 [.slice s0 len0 cap0]) :
    Calls Try.prog 4 #[.slice s0 len0 cap0] w fun e w' => e = .returned (.bool true) ∧ Below w.heap.size w w' := by
  obtain ⟨L, rfl, hR, -⟩ := row_of_fits w0
  clear w0
  have HR := Lib.hid hR
  clear hR
  generalize hg : getL 0 0 L = q
  obtain ⟨n, k, er⟩ := q
  have C1 := Lib.hid (get_at HR.out)
  have C2 := Lib.hid (rget_at HR.out)
  rw [hg] at C1 C2
  unfold getV at C1 C2
  clear hg
  go_enter Try.func4, Try.ntmps4
  go_wp2_with fail
  refine C1.out.mono ?_
  rintro e w' ⟨rfl, rfl⟩
  go_wp2_with fail
  refine C2.out.mono ?_
  rintro e w' ⟨rfl, rfl⟩
  go_wp2_with fail
  refine (works_at _).mono ?_
  rintro e w3 ⟨rfl, hK⟩
  have hF := Lib.hid (Keep.below hK (Nat.le_refl _) (by simp))
  clear hK
  go_wp2_with fail
  go_ret
  exact ⟨rfl, hF.out⟩
end Go.Proofs.Ytffpccijmgjofaa
