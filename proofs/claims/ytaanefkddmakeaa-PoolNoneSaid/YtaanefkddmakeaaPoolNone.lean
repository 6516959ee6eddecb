/- The law PoolNone, walked: a pool that is not there, or that no call made. -/
import Derived.Test.YtaanefkddmakeaaPoolBegins
namespace Go.Proofs.Ytaanefkddmakeaa
open Go.RowKit Go.Mum

def NoPool (w : World) (v : Value) : Prop := v = .pointer none ∨ ∃ b, v = .pointer (some ⟨b, 0, none⟩) ∧ w.cell? ⟨b, 0, none⟩ = some (.bool false)

set_option maxHeartbeats 400000 in
theorem preset_none (v : Value) (w : World) (h : NoPool w v) :
    Calls Try.prog 31 #[v] w fun e w' => e = .returned (.tuple #[]) ∧ w = w' := by
  rcases h with rfl | ⟨b, rfl, hc⟩
  all_goals
    go_enter Try.func31, Try.ntmps31
    go_wp2
    go_end0
    exact ⟨rfl, rfl⟩

set_option maxHeartbeats 400000 in
theorem ptake_none (v : Value) (w : World) (h : NoPool w v) :
    Calls Try.prog 21 #[v] w fun e w' => e = .returned (.tuple #[.int .i64 0, .bool false]) ∧ w = w' := by
  rcases h with rfl | ⟨b, rfl, hc⟩
  all_goals
    go_enter Try.func21, Try.ntmps21
    go_wp2
    go_ret2
    exact ⟨rfl, rfl⟩

set_option maxHeartbeats 400000 in
theorem pgive_none (v : Value) (f : Int) (w : World) (h : NoPool w v) :
    Calls Try.prog 20 #[v, .int .i64 f] w fun e w' => e = .returned (.bool false) ∧ w = w' := by
  rcases h with rfl | ⟨b, rfl, hc⟩
  all_goals
    go_enter Try.func20, Try.ntmps20
    go_wp2
    go_ret
    exact ⟨rfl, rfl⟩

set_option maxHeartbeats 400000 in
theorem pleft_none (v : Value) (w : World) (h : NoPool w v) :
    Calls Try.prog 19 #[v] w fun e w' => e = .returned (.int .i64 0) ∧ w = w' := by
  rcases h with rfl | ⟨b, rfl, hc⟩
  all_goals
    go_enter Try.func19, Try.ntmps19
    go_wp2
    go_ret
    exact ⟨rfl, rfl⟩

set_option maxHeartbeats 400000 in
theorem pcounts_none (v : Value) (w : World) (h : NoPool w v) :
    Calls Try.prog 33 #[v] w fun e w' => e = .returned (.tuple #[.int .i64 0, .int .i64 0]) ∧ w = w' := by
  rcases h with rfl | ⟨b, rfl, hc⟩
  all_goals
    go_enter Try.func33, Try.ntmps33
    go_wp2
    go_ret2
    exact ⟨rfl, rfl⟩

set_option maxHeartbeats 1000000 in
theorem PoolNone_walk (a0 : Int) (w : World) (_w0 : (Lit.int .i64 a0).wf = true) :
    Calls Try.prog 10 #[.int .i64 a0] w fun e w' => e = .returned (.bool true) ∧ Below w.heap.size w w' := by
  clear _w0
  go_enter Try.func10, Try.ntmps10
  go_wp2_with fail
  generalize hx : World.alloc (World.alloc w _) _ = w1
  have hK : Keep [] w w1 := by rw [← hx]; exact ((Keep.refl _ _).alloc _).alloc _
  have d0 : w1.cell? ⟨w.heap.size + 1, 0, none⟩ = some (.pointer none) := by rw [← hx]; exact cell_of (heap_alloc_at _ (by simp)) 0 rfl
  have d1 : w1.cell? ⟨w.heap.size + 1, 1, none⟩ = some (.pointer (some ⟨w.heap.size, 0, none⟩)) := by rw [← hx]; exact cell_of (heap_alloc_at _ (by simp)) 1 rfl
  have d2 : w1.cell? ⟨w.heap.size, 0, none⟩ = some (.bool false) := by rw [← hx]; exact cell_of (heap_alloc_other _ (heap_alloc_same w _)) 0 rfl
  clear hx
  have n0 : NoPool w1 (.pointer none) := .inl rfl
  have n1 : NoPool w1 (.pointer (some ⟨w.heap.size, 0, none⟩)) := .inr ⟨_, rfl, d2⟩
  clear d2
  generalize w.heap.size = B at d0 d1 n1
  go_loop [5] (fun i => ∃ k : Nat, k ≤ 2 ∧ i = .int .i64 k) (fun i => 2 - (intOf i).toNat)
  case atStart => exact ⟨0, by omega, rfl⟩
  case round =>
    obtain ⟨k, hk, rfl⟩ := hrel
    by_cases h2 : k < 2
    · obtain rfl | rfl : k = 0 ∨ k = 1 := by omega
      · go_wp2_with (first | (go_at_call 31; refine (preset_none _ _ n0).mono ?_; rintro e w' ⟨rfl, rfl⟩) | (go_at_call 21; refine (ptake_none _ _ n0).mono ?_; rintro e w' ⟨rfl, rfl⟩) | (go_at_call 20; refine (pgive_none _ _ _ n0).mono ?_; rintro e w' ⟨rfl, rfl⟩) | (go_at_call 19; refine (pleft_none _ _ n0).mono ?_; rintro e w' ⟨rfl, rfl⟩) | (go_at_call 33; refine (pcounts_none _ _ n0).mono ?_; rintro e w' ⟨rfl, rfl⟩))
        go_round
        case rel => exact ⟨1, by omega, rfl⟩
        case measure => simp [intOf]
      · go_wp2_with (first | (go_at_call 31; refine (preset_none _ _ n1).mono ?_; rintro e w' ⟨rfl, rfl⟩) | (go_at_call 21; refine (ptake_none _ _ n1).mono ?_; rintro e w' ⟨rfl, rfl⟩) | (go_at_call 20; refine (pgive_none _ _ _ n1).mono ?_; rintro e w' ⟨rfl, rfl⟩) | (go_at_call 19; refine (pleft_none _ _ n1).mono ?_; rintro e w' ⟨rfl, rfl⟩) | (go_at_call 33; refine (pcounts_none _ _ n1).mono ?_; rintro e w' ⟨rfl, rfl⟩))
        go_round
        case rel => exact ⟨2, by omega, rfl⟩
        case measure => simp [intOf]
    · go_wp2_with (go_at_call 18; refine (pworks _).mono ?_; rintro e w' ⟨rfl, hK'⟩)
      go_ret
      exact ⟨rfl, (hK.then hK' (by simp)).below (Nat.le_refl _) (by simp)⟩
end Go.Proofs.Ytaanefkddmakeaa
