/- Bytes laid of which there may be none. -/
import Derived.Test.YtpinoejckagjbaaRamP2
namespace Go.Proofs.Ytpinoejckagjbaa
open Go.RowKit Go.Mum

set_option maxRecDepth 100000 in
set_option maxHeartbeats 1000000 in
theorem rlay_empty {w : World} {r fb g : Nat} {ks : List Nat} {L : List Int} (h : RamAt w r fb g ks L) (a : Nat) (hyes : a ≤ 64 * ks.length) {src : Option Addr} {c : Nat} :
    Calls Try.prog 77 #[.int .u32 a, .slice src 0 c, .int .i64 1, .func (.func 78) #[.pointer (some ⟨r, 0, none⟩)] #[], .func (.func 79) #[.pointer (some ⟨r, 0, none⟩)] #[]] w fun e w' => e = .returned (.bool true) ∧ w = w' := by
  have hs := h.size
  have C := rwithin_any h.sz a 0 1 (by omega) (by omega) (.inl rfl)
  rw [decide_eq_true (by omega)] at C
  have C := Lib.hid C
  clear h
  go_enter Try.func77, Try.ntmps77
  go_wp2_with fail
  refine C.out.mono ?_
  rintro e w' ⟨rfl, rfl⟩
  go_wp2_with fail
  refine wp_loop_rounds 1 ?_
  rw [rounds_succ]
  go_wp2_with fail
  go_ret
  exact ⟨rfl, rfl⟩

set_option maxHeartbeats 1000000 in
theorem rfill_all {w : World} {r fb g : Nat} {ks : List Nat} {L : List Int} (h : RamAt w r fb g ks L) (a : Nat) (ha : a < 4294967296) {src : Option Addr} {c : Nat} {M : List Int}
    (hM : Row w src c M) (hsrc : M = [] ∨ ∀ b, src = some b → b.block ≠ g) (hl : M.length ≤ 9223372036854775807) :
    Calls Try.prog 44 #[.pointer (some ⟨r, 0, none⟩), .int .u32 a, .slice src M.length c] w (LayPost r fb g ks L a M 1 w) := by
  rcases hsrc with h0 | hsrc
  · subst h0
    by_cases hyes : a ≤ 64 * ks.length
    · have C := Lib.hid (rlay_empty h a hyes (src := src) (c := c))
      have hmf : ∀ (fn : Fn) (first cap : Array Value) (w : World), (Instr.makeFunc fn first cap).run Try.prog w = .ok (.func fn first cap) w := fun _ _ _ _ => rfl
      have HF : Hid (LayPost r fb g ks L a [] 1 w (.returned (.bool true)) w) := Lib.hid ⟨by rw [layB_yes (by simp; omega)], by rw [if_pos (layB_yes (by simp; omega))]; exact h, Keep.refl _ _⟩
      clear h hM
      go_enter Try.func44, Try.ntmps44
      go_wp2_with fail
      refine C.out.mono ?_
      rintro e w' ⟨rfl, rfl⟩
      go_wp2_with fail
      go_ret
      exact HF.out
    · have C := Lib.hid (rlay_no h.sz a ha 1 (.inl rfl) (src := src) (c := c) 0 (by omega) (by omega))
      have hmf : ∀ (fn : Fn) (first cap : Array Value) (w : World), (Instr.makeFunc fn first cap).run Try.prog w = .ok (.func fn first cap) w := fun _ _ _ _ => rfl
      have HF : Hid (LayPost r fb g ks L a [] 1 w (.returned (.bool false)) w) := Lib.hid ⟨by rw [layB_no (by simp; omega)], by rw [if_neg (by rw [layB_no (by simp; omega)]; simp)]; exact h, Keep.refl _ _⟩
      clear h hM
      go_enter Try.func44, Try.ntmps44
      go_wp2_with fail
      refine C.out.mono ?_
      rintro e w' ⟨rfl, rfl⟩
      go_wp2_with fail
      go_ret
      exact HF.out
  · exact rfill_any h a ha hM hsrc hl
end Go.Proofs.Ytpinoejckagjbaa
