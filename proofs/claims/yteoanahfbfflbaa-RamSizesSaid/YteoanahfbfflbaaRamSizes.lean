/- The law RamSizes, walked. -/
import Derived.Test.YteoanahfbfflbaaRef3
import Derived.Test.YteoanahfbfflbaaFits
import Derived.Outline
namespace Go.Proofs.Yteoanahfbfflbaa
open Go.RowKit Go.Mum

set_option maxRecDepth 100000 in
set_option maxHeartbeats 4000000 in
theorem RamSizes_walk (a0 : Int) (w : World) (w0 : (Lit.int .i64 a0).wf = true) :
    Calls Try.prog 3 #[.int .i64 a0] w fun e w' => e = .returned (.bool true) ∧ Below w.heap.size w w' := by
  obtain ⟨b1, b2⟩ := wf_i64 w0
  clear w0
  by_cases hbad : a0 < 1 ∨ 512 < a0
  · have C := Lib.hid (rnew_bad a0 w b1 b2 hbad)
    go_enter Try.func3, Try.ntmps3
    go_wp2_with fail
    refine C.out.mono ?_
    rintro e y ⟨rfl, rfl⟩
    rcases hbad with h | h
    all_goals
      go_wp2_with fail
      refine (rnew_good 1 w (by omega) (by omega)).mono ?_
      rintro e y ⟨r, fb, g, hr, hfb, hg, rfl, hA, hK⟩
      have D := rsize_any hA.sz
      rw [List.length_range] at D
      have D := Lib.hid D
      have HF := Lib.hid (Keep.below hK (Nat.le_refl _) (by simp))
      clear hA hK
      go_wp2_with fail
      refine D.out.mono ?_
      rintro e y2 ⟨rfl, rfl⟩
      go_wp2_with fail
      go_ret
      exact ⟨rfl, HF.out⟩
  · obtain ⟨n, rfl⟩ : ∃ n : Nat, a0 = n := ⟨a0.toNat, by omega⟩
    have hn1 : 1 ≤ n := by omega
    have hn5 : n ≤ 512 := by omega
    have j1 : ¬ ((n : Int) < 1) := by omega
    have j2 : ¬ ((512 : Int) < (n : Int)) := by omega
    clear hbad b1 b2
    go_enter Try.func3, Try.ntmps3
    go_wp2_with fail
    refine (rnew_good n w hn1 hn5).mono ?_
    rintro e y ⟨r, fb, g, hr, hfb, hg, rfl, hA, hK⟩
    have D := rsize_any hA.sz
    rw [List.length_range] at D
    have D := Lib.hid D
    have E1 := rbyte_yes hA (64 * n - 1) (by rw [List.length_range]; omega)
    rw [pl_range (by omega), show (((64 * n - 1 : Nat)) : Int) = 64 * (n : Int) - 1 by omega] at E1
    rw [show (List.replicate (64 * n) (0 : Int)).getD (64 * n - 1) 0 = 0 by simp [List.getD, List.getElem?_replicate]; split <;> rfl] at E1
    have E1 := Lib.hid E1
    have E2 := rbyte_no hA.sz (64 * n) (by omega) (by rw [List.length_range]; omega)
    rw [show (((64 * n : Nat)) : Int) = 64 * (n : Int) by omega] at E2
    have E2 := Lib.hid E2
    have F1 := rframe_yes hA (n - 1) (by rw [List.length_range]; omega)
    rw [show (((n - 1 : Nat)) : Int) = (n : Int) - 1 by omega] at F1
    have hfl := (hA.frame (k := n - 1) (by rw [List.length_range]; omega)).2
    generalize frameOf (List.range n) (List.replicate (64 * n) 0) (n - 1) = M at F1 hfl
    have F1 := Lib.hid (And.intro F1 hfl)
    have F2 := Lib.hid (fun (x : World) (hx : Keep [] y x) => rframe_no (hA.keep0 hx).sz n (by omega) (by omega) (.inr (by rw [List.length_range]; omega)))
    have HK := Lib.hid hK
    clear hA hK hfl
    go_wp2_with fail
    refine D.out.mono ?_
    rintro e y2 ⟨rfl, rfl⟩
    go_wp2_with fail
    refine E1.out.mono ?_
    rintro e y2 ⟨rfl, rfl⟩
    go_wp2_with fail
    refine D.out.mono ?_
    rintro e y2 ⟨rfl, rfl⟩
    go_wp2_with fail
    refine E2.out.mono ?_
    rintro e y2 ⟨rfl, rfl⟩
    go_wp2_with fail
    refine D.out.mono ?_
    rintro e y2 ⟨rfl, rfl⟩
    go_wp2_with fail
    refine F1.out.1.mono ?_
    rintro e y2 hp
    obtain ⟨a, c, rfl, -, hK2⟩ := rowPost_own hp
    rw [F1.out.2]
    have HK2 := Lib.hid hK2
    clear hp hK2
    go_wp2_with fail
    refine (F2.out _ HK2.out).mono ?_
    rintro e y3 ⟨rfl, rfl⟩
    have HF := Lib.hid (Keep.below (HK.out.trans HK2.out) (Nat.le_refl _) (by simp))
    go_wp2_with fail
    go_ret
    exact ⟨rfl, HF.out⟩
end Go.Proofs.Yteoanahfbfflbaa
