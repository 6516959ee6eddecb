/- The law PoolBegins, walked; and that a frame is lent. -/
import Derived.Test.YtaanefkddmakeaaPool1
import Derived.Test.YtaanefkddmakeaaFits
namespace Go.Proofs.Ytaanefkddmakeaa
open Go.RowKit Go.Mum

set_option maxHeartbeats 400000 in
theorem pworks (w : World) :
    Calls Try.prog 18 #[] w fun e w' => e = .returned (.bool true) ∧ Keep [] w w' := by
  go_enter Try.func18, Try.ntmps18
  go_wp2_with fail
  refine (pnew_good 7 1 _ (by omega) (by omega) (by omega) (by omega)).mono ?_
  rintro e w1 ⟨b, m, hb, hm, rfl, hP, hK⟩
  go_wp2_with fail
  refine (ptake_at hP (by omega) (by omega) (by omega) (by omega) (by omega) (by omega) (by omega) (by omega)).mono ?_
  rintro e w2 (⟨k, hk, _, _, rfl, hP2, hK2⟩ | ⟨hall, _⟩)
  · obtain rfl : k = 0 := by omega
    have HK : Hid (Keep [] w w2) := Lib.hid (hK.then hK2 (by simp; omega))
    have H2 : Hid (∀ x : World, Keep [] w2 x → Keep [] w x) := Lib.hid (fun x hx => HK.out.then hx (by simp))
    clear hK hK2 hP HK
    go_wp2_with (go_at_call 19; refine (pleft_at hP2 (by omega) (by omega) (by simp)).mono ?_; rintro e w3 ⟨rfl, n, rfl⟩; simp only [List.nil_append, List.length_cons, List.length_nil])
    go_ret
    exact ⟨rfl, H2.out _ ((Keep.refl _ _).drewN _)⟩
  · have := hall 0 (by omega)
    simp at this

set_option maxHeartbeats 400000 in
theorem PoolBegins_walk (a0 : Int) (a1 : Int) (w : World) (w0 : (Lit.int .i64 a0).wf = true) (w1 : (Lit.int .i64 a1).wf = true) :
    Calls Try.prog 4 #[.int .i64 a0, .int .i64 a1] w fun e w' => e = .returned (.bool true) ∧ Below w.heap.size w w' := by
  have b0 := wf_i64 w0
  have b1 := wf_i64 w1
  clear w0 w1
  by_cases h : a0 < 0 ∨ a1 < 0 ∨ 512 < a1 ∨ 512 - a1 < a0
  · go_enter Try.func4, Try.ntmps4
    go_wp2_with (first | (go_at_call 17; refine (pnew_bad a0 a1 _ b0 b1 h).mono ?_; rintro e w' ⟨rfl, rfl⟩) | (go_at_call 18; refine (pworks _).mono ?_; rintro e w' ⟨rfl, hK⟩))
    all_goals first | (exfalso; omega) | (go_ret; exact ⟨rfl, (by assumption : Keep [] w _).below (Nat.le_refl _) (by simp)⟩)
  · have h1 : 0 ≤ a0 := by omega
    have h2 : 0 ≤ a1 := by omega
    have h3 : a1 ≤ 512 := by omega
    have h4 : a0 ≤ 512 - a1 := by omega
    clear h
    go_enter Try.func4, Try.ntmps4
    go_wp2_with fail
    refine (pnew_good a0 a1 _ h1 h2 h3 h4).mono ?_
    rintro e w1 ⟨b, m, hb, hm, rfl, hP, hK⟩
    go_wp2_with (first | (go_at_call 19; refine (pleft_at hP h2 h3 (by simp)).mono ?_; rintro e w3 ⟨rfl, n, rfl⟩; simp only [List.length_nil, Int.natCast_zero, Int.sub_zero]) | (go_at_call 18; refine (pworks _).mono ?_; rintro e w' ⟨rfl, hK'⟩))
    go_ret
    exact ⟨rfl, ((hK.drewN n).then hK' (by simp)).below (Nat.le_refl _) (by simp)⟩
end Go.Proofs.Ytaanefkddmakeaa
