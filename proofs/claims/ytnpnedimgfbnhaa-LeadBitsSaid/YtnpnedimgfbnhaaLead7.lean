/- Memories as tables are read in them; a plain access that is led on. -/
import Derived.Test.YtnpnedimgfbnhaaLead6
import Derived.Outline
namespace Go.Proofs.Ytnpnedimgfbnhaa
open Go.RowKit Go.Mum
set_option linter.unusedVariables false
set_option maxRecDepth 100000

theorem mem_of_ram {w : World} {r fb g n : Nat} {L : List Int} (h : RamAt w r fb g (List.range n) L) (hl : L.length = 64 * n) (hn : n ≤ 512) : Mem w (.pointer (some ⟨r, 0, none⟩)) n (rdOf n L) := by
  refine ⟨fun x hx a ha => ?_, fun x hx => ?_, fun a z hz => rdOf_lt h.bytes hl hz, hn⟩
  · obtain ⟨e1, e2⟩ := wordAt_rd h.bytes hl a
    rw [← e1, ← e2]
    have hr := h.keep0 hx
    unfold wordAt
    by_cases hy : a % 4 = 0 ∧ a < 64 * n
    · have hb : layB n a 4 4 = true := layB_yes (by omega)
      rw [if_pos hb, hb]
      refine (rword_yes hr a hy.1 (by rw [List.length_range]; exact hy.2)).mono ?_
      rintro e w' ⟨rfl, m, rfl⟩
      exact ⟨by rw [pl_range hy.2], (Keep.refl _ _).drewN _⟩
    · have hb : layB n a 4 4 = false := layB_no (by omega)
      rw [if_neg (by rw [hb]; simp), hb]
      refine (rword_no hr.sz a ha (by rw [List.length_range]; exact hy)).mono ?_
      rintro e w' ⟨rfl, rfl⟩
      exact ⟨rfl, Keep.refl _ _⟩
  · have := rsize_any (h.keep0 hx).sz
    rw [List.length_range] at this
    exact this

/-- The state that is all 0. -/
def st0 (i : Nat) : Value := if i = 18 then .bool false else .int .u32 0
theorem st0_one (i : Nat) : (st0 i).oneCell' = true := by unfold st0; split <;> rfl

theorem dec_works (rd : Nat → Option Nat) (W : Int → Bool) (h : W 0 = false) : decF rd 1 W 0 0 8 3 = ⟨1, 0, 7, [], 0, false, 0, 0⟩ := by
  have e1 : toF rd 1 0 16 0 8 3 = (8, true) := by simp [toF]
  have e2 : wayL rd 1 0 0 8 3 = some (23, 8, 0, 0, 0, 0) := by unfold wayL; rw [e1]; simp
  unfold decF
  rw [e2]
  simp [decV, overV, h, leadB]

set_option maxHeartbeats 1000000 in
theorem lworks_at (w : World) : Calls Try.prog 11 #[] w (BoolPost true w) := by
  go_enter Try.func11, Try.ntmps11
  go_wp2_with fail
  refine (rnew_good 1 _ (by omega) (by omega)).mono ?_
  rintro e y ⟨r, fb, g, hr, hfb, hg, rfl, hA, hK⟩
  have HA := Lib.hid (And.intro hA hK)
  clear hA hK hr hfb hg
  go_wp2_with fail
  refine (mnew_good 1 _ (by omega) (by omega)).mono ?_
  rintro e y2 ⟨b, m1, m2, hb, hm1, hm2, rfl, hM, hK2⟩
  have HM := Lib.hid (And.intro hM hK2)
  have HD := Lib.hid (decide_at (mem_of_ram (HA.out.1.keep0 HM.out.2) (by simp) (by omega)) HM.out.1.wat st0 st0_one 0 0 8 3 (by omega) (by omega) (by omega) (by omega) (by omega))
  rw [dec_works _ _ (by simp)] at HD
  clear hM hK2 hb hm1 hm2
  go_wp2_with fail
  refine HD.out.mono ?_
  rintro e y3 ⟨a, cap, rfl, hR, hk3, hg⟩
  have HF := Lib.hid ((HA.out.2.trans HM.out.2).trans hk3)
  clear hR hk3 hg
  unfold verV
  go_wp2_with fail
  go_ret
  exact ⟨rfl, HF.out.alloc _⟩
end Go.Proofs.Ytnpnedimgfbnhaa
