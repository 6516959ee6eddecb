/- A shadow over an empty pool; and what is refused. -/
import Derived.Test.YtpinoejckagjbaaSh9
import Derived.Outline
namespace Go.Proofs.Ytpinoejckagjbaa
open Go.RowKit Go.Mum
set_option linter.unusedVariables false
set_option linter.unusedSimpArgs false
set_option maxRecDepth 100000

theorem snew_none (v : Value) (dir : Int) (w : World) (hd : -9223372036854775808 ≤ dir ∧ dir ≤ 9223372036854775807) :
    Calls Try.prog 22 #[.pointer none, .int .i64 dir, v] w fun e w' => e = .returned (.tuple #[.pointer none, .int .i64 1]) ∧ w = w' := by
  have C0 := Lib.hid (rsize_any (w := w) (v := .pointer none) (n := 0) (.inl ⟨rfl, rfl⟩))
  go_enter Try.func22, Try.ntmps22
  go_wp2_with fail
  refine C0.out.mono ?_
  rintro e w' ⟨rfl, rfl⟩
  go_wp2_with fail
  go_ret2
  exact ⟨rfl, rfl⟩

theorem snew_nopool {w : World} {v : Value} {n : Nat} (h : Sz w v n) (hn : 1 ≤ n) (dir : Int) :
    Calls Try.prog 22 #[v, .int .i64 dir, .pointer none] w fun e w' => e = .returned (.tuple #[.pointer none, .int .i64 1]) ∧ w = w' := by
  have hle := h.le
  have C0 := Lib.hid (rsize_any h)
  have n0 : ¬ (64 * (n : Int) = 0) := by omega
  have n0' : ¬ (n = 0) := by omega
  go_enter Try.func22, Try.ntmps22
  go_wp2_with fail
  refine C0.out.mono ?_
  rintro e w' ⟨rfl, rfl⟩
  go_wp2_with fail
  go_ret2
  exact ⟨rfl, rfl⟩

theorem snew_bad {w : World} {v : Value} {n p : Nat} (h : Sz w v n) (hn : 1 ≤ n) (dir : Int) (hd1 : -9223372036854775808 ≤ dir) (hd2 : dir ≤ 9223372036854775807) (hb : dir < 0 ∨ (n : Int) - 1 ≤ dir) :
    Calls Try.prog 22 #[v, .int .i64 dir, .pointer (some ⟨p, 0, none⟩)] w fun e w' => e = .returned (.tuple #[.pointer none, .int .i64 2]) ∧ w = w' := by
  have hle := h.le
  have C0 := Lib.hid (rsize_any h)
  have C1 := Lib.hid (sframes_at h)
  have n0 : ¬ (64 * (n : Int) = 0) := by omega
  have n0' : ¬ (n = 0) := by omega
  have d1 : IntKind.i64.wrap ((n : Int) - 1) = (n : Int) - 1 := IntWalk.i64_in _ (by omega)
  by_cases hneg : dir < 0
  · clear hb
    go_enter Try.func22, Try.ntmps22
    go_wp2_with fail
    refine C0.out.mono ?_
    rintro e w' ⟨rfl, rfl⟩
    go_wp2_with fail
    go_ret2
    exact ⟨rfl, rfl⟩
  · have hb : (n : Int) - 1 ≤ dir := hb.resolve_left hneg
    go_enter Try.func22, Try.ntmps22
    go_wp2_with fail
    refine C0.out.mono ?_
    rintro e w' ⟨rfl, rfl⟩
    go_wp2_with fail
    refine C1.out.mono ?_
    rintro e w' ⟨rfl, rfl⟩
    go_wp2_with fail
    go_ret2
    exact ⟨rfl, rfl⟩

theorem sput_nil (va : Nat) (frame : Int) (bb : Int) (w : World) :
    Calls Try.prog 13 #[.pointer none, .int .u32 va, .int .i64 frame, .int .u32 bb] w fun e w' => e = .returned (.bool false) ∧ w = w' := by
  go_enter Try.func13, Try.ntmps13
  go_wp2_with fail
  refine (snone_nil _).mono ?_
  rintro e w' ⟨rfl, rfl⟩
  go_wp2_with fail
  go_ret
  exact ⟨rfl, rfl⟩

set_option maxHeartbeats 2000000 in
theorem stable_empty {w : World} {s r p pm : Nat} {dir : Int} (h : ShAt w s r p dir (fun _ => tab0)) (hp : PoolAt w p pm 0 0 [] 0 0) (n : Nat) (hn : n < 32) :
    Calls Try.prog 47 #[.pointer (some ⟨s, 0, none⟩), .int .u32 n] w fun e w' => e = .returned (.bool false) ∧ Keep [p, pm] w w' := by
  obtain ⟨c0, c1, c2, c3⟩ := h.heads
  have ct : w.cell? ⟨s, 3 + n * 18, none⟩ = some (.bool false) := h.th hn
  have hni : (n : Int) < 32 := by omega
  have C := Lib.hid (ptake_at hp (by omega) (by omega) (by omega) (by omega) (by omega) (by omega) (by omega) (by omega))
  clear h hp
  go_enter Try.func47, Try.ntmps47
  go_wp2_with fail
  refine C.out.mono ?_
  rintro e y hT
  rcases hT with ⟨k, hk, _⟩ | ⟨_, rfl, _, hkp⟩
  · omega
  · have HK := Lib.hid hkp
    clear hkp
    go_wp2_with fail
    go_ret
    exact ⟨rfl, HK.out⟩

set_option maxHeartbeats 2000000 in
theorem sput_empty {w : World} {s r p pm n : Nat} {dir : Int} (h : ShAt w s r p dir (fun _ => tab0)) (hz : Sz w (.pointer (some ⟨r, 0, none⟩)) n) (hn : 1 ≤ n) (hp : PoolAt w p pm 0 0 [] 0 0) (va : Nat) (hv : va < 4294967296) :
    Calls Try.prog 13 #[.pointer (some ⟨s, 0, none⟩), .int .u32 va, .int .i64 0, .int .u32 1] w fun e w' => e = .returned (.bool false) ∧ Keep [p, pm] w w' := by
  obtain ⟨c0, c1, c2, c3⟩ := h.heads
  have C0 := Lib.hid (snone_at c0)
  have C1 := Lib.hid (sframes_at hz)
  obtain ⟨m, hm⟩ : ∃ m, m = va / 1024 := ⟨_, rfl⟩
  have n1 : (va : Int) / 1024 = (m : Int) := by omega
  have hn0 : ¬ ((n : Int) ≤ 0) := by omega
  have hn0' : ¬ (n = 0) := by omega
  have hnp : (0 : Int) < (n : Int) := by omega
  have hnp' : 0 < n := by omega
  by_cases hm32 : 32 ≤ m
  · have hi : (32 : Int) ≤ (m : Int) := by omega
    clear hm hm32 h hp hz
    go_enter Try.func13, Try.ntmps13
    go_wp2_with fail
    refine C0.out.mono ?_
    rintro e w' ⟨rfl, rfl⟩
    go_wp2_with fail
    go_ret
    exact ⟨rfl, Keep.refl _ _⟩
  · have hi : ¬ ((32 : Int) ≤ (m : Int)) := by omega
    have hi2 : (m : Int) < 32 := by omega
    have h16 : (va : Int) < 16384 ∨ ¬ ((va : Int) < 16384) := by omega
    have C2 := Lib.hid (stable_empty h hp m (by omega))
    clear hm hm32 h hp hz
    rcases h16 with h16 | h16
    all_goals
      go_enter Try.func13, Try.ntmps13
      go_wp2_with fail
      refine C0.out.mono ?_
      rintro e w' ⟨rfl, rfl⟩
      go_wp2_with fail
      refine C1.out.mono ?_
      rintro e w' ⟨rfl, rfl⟩
      go_wp2_with fail
      refine C2.out.mono ?_
      rintro e y ⟨rfl, hk⟩
      have HK := Lib.hid hk
      clear hk
      go_wp2_with fail
      go_ret
      exact ⟨rfl, HK.out⟩

theorem look_zero {n dir va : Nat} {L : List Int} (hl : L.length = 64 * n) (hd : dir + 2 ≤ n) (hn : n ≤ 512) : lookF (rdOf n (splice L (64 * dir) (List.replicate 128 (0 : Int)))) n (64 * dir) 32 va = none := by
  unfold lookF
  by_cases hv : 32 ≤ va / 1024
  · rw [if_pos hv]
  · have e : dirAt (64 * dir) va = 64 * dir + 4 * (va / 1024) := by unfold dirAt; omega
    rw [if_neg hv, e]
    have : rdOf n (splice L (64 * dir) (List.replicate 128 (0 : Int))) (64 * dir + 4 * (va / 1024)) = some 0 := by
      unfold rdOf
      rw [if_pos (layB_yes (by omega)), word_zero (by omega) (by omega) (by omega)]
      rfl
    rw [this]
    simp

theorem other_of_fits {w : World} {B n : Nat} {c : Array Value} (h : Fits Try.prog w B n 52 c.toList) : ∃ (no va : Nat), c = #[.int .u8 no, .int .u32 va] ∧ no < 256 ∧ va < 4294967296 := by
  obtain ⟨m2, hl, hfs⟩ := h.struct Try.underlying52
  have cs : Try.prog.cellsOf 52 = 2 := by kernel_rfl
  rw [cs] at hl
  obtain ⟨l⟩ := c
  match l, hl with
  | [d0, d1], _ =>
    have q1 : Try.prog.cellsOf 5 = 1 := by kernel_rfl
    have q2 : Try.prog.cellsOf 22 = 1 := by kernel_rfl
    obtain ⟨z0, e0, g0⟩ := (hfs _ (.head _)).int Try.underlying5
    obtain ⟨z1, e1, g1⟩ := (hfs _ (.tail _ (.head _))).int Try.underlying22
    simp [q1, q2] at e0 e1
    subst e0 e1
    have h0 := wf_u8 g0
    have h1 := wf_u32 g1
    exact ⟨z0.toNat, z1.toNat, by rw [Int.toNat_of_nonneg h0.1, Int.toNat_of_nonneg h1.1], by omega, by omega⟩
end Go.Proofs.Ytpinoejckagjbaa
