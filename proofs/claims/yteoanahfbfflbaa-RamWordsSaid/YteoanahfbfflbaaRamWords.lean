/- The law RamWords, walked. -/
import Derived.Test.YteoanahfbfflbaaRamP2
import Derived.Test.YteoanahfbfflbaaFits
namespace Go.Proofs.Yteoanahfbfflbaa
open Go.RowKit Go.Mum

theorem below_drewN {B : Nat} {w x : World} (h : Below B w x) (n : Nat) : Below B w (x.drewN n) := ⟨h.1, h.2, h.3, h.4, h.5⟩

theorem le4_byte {z : Nat} (hz : z < 4294967296) : ∀ k, k < 4 → (le4 z).getD (3 - k) 0 = ((z / 256 ^ (3 - k) % 256 : Nat) : Int)
  | 0, _ => by simp [le4]; omega
  | 1, _ => by simp [le4]
  | 2, _ => by simp [le4]
  | 3, _ => by simp [le4]
  | k + 4, h => by omega

set_option maxRecDepth 100000 in
set_option maxHeartbeats 4000000 in
theorem RamWords_walk (a0 : Int) (a1 : Int) (a2 : Int) (w : World) (_w0 : (Lit.int .i64 a0).wf = true) (w1 : (Lit.int .u32 a1).wf = true) (w2 : (Lit.int .u32 a2).wf = true) :
    Calls Try.prog 5 #[.int .i64 a0, .int .u32 a1, .int .u32 a2] w fun e w' => e = .returned (.bool true) ∧ Below w.heap.size w w' := by
  have b1 := wf_u32 w1
  have b2 := wf_u32 w2
  obtain ⟨a, rfl⟩ : ∃ a : Nat, a1 = a := ⟨a1.toNat, by omega⟩
  obtain ⟨z, rfl⟩ : ∃ z : Nat, a2 = z := ⟨a2.toNat, by omega⟩
  have ha : a < 4294967296 := by omega
  have hz : z < 4294967296 := by omega
  clear w1 w2 b1 b2
  go_enter Try.func5, Try.ntmps5
  go_wp2_with fail
  refine (made_at a0 _).mono ?_
  rintro e y ⟨r, fb, g, q, n, hn5, hr, hfb, hg, hq, rfl, hB, hK⟩
  have HB := Lib.hid (And.intro hB hK)
  clear hB hK
  go_wp2_with fail
  refine (near_at a ha _).mono ?_
  rintro e y2 ⟨rfl, rfl⟩
  have hnl := near_lt ha
  generalize near a = A at hnl
  have HB2 : Hid (Both (y.alloc (.cells #[.slice (some ⟨q, 0, none⟩) (64 * n) (64 * n)] 35)) r fb g q n (List.replicate (64 * n) 0) ∧ Keep [] w (y.alloc (.cells #[.slice (some ⟨q, 0, none⟩) (64 * n) (64 * n)] 35))) := Lib.hid ⟨HB.out.1.keep0 ((Keep.refl _ _).alloc _), HB.out.2.alloc _⟩
  generalize hy3 : y.alloc _ = y3 at HB2
  clear hy3 HB
  have hn1 := HB2.out.1.n1
  have HS := Lib.hid (rsetword_any HB2.out.1.ram A hnl z hz)
  by_cases hyes : A % 4 = 0 ∧ A < 64 * n
  · have hl : layB n A 4 4 = true := layB_yes (by omega)
    have hlen : (le4 z).length = 4 := rfl
    unfold LayPost at HS
    rw [List.length_range, hlen, hl, if_pos rfl, putAt_range n _ _ _ (by rw [hlen]; omega) (by simp)] at HS
    go_wp2_with fail
    refine HS.out.mono ?_
    rintro e y4 ⟨rfl, hA, hK⟩
    have hw4 := word4_splice (L := List.replicate (64 * n) 0) (p := A) (z := z) (by simp; omega)
    have hb4 : ∀ k, k < 4 → (splice (List.replicate (64 * n) 0) A (le4 z)).getD (A + (3 - k)) 0 = ((z / 256 ^ (3 - k) % 256 : Nat) : Int) := fun k hk => by rw [getD_splice_in (by rw [hlen]; omega) (by simp [hlen]; omega), le4_byte hz k hk]
    have hF := Lib.hid (Keep.below (HB2.out.2.then hK (fun k hk hlt => by simp at hk; omega)) (Nat.le_refl _) (by simp))
    have HA := Lib.hid (And.intro hA (And.intro hw4 hb4))
    obtain ⟨hy4, hyn⟩ := hyes
    clear hA hw4 hb4 hK HS
    go_wp2_with fail
    go_loop [11, 12, 13, 14] (fun nv kv _ _ => ∃ (k s : Nat), kv = .int .u32 k ∧ nv = .int .u32 s ∧ k ≤ 4 ∧ s = z / 256 ^ (4 - k)) (fun _ kv _ _ => 4 - (intOf kv).toNat)
    case atStart => exact ⟨0, 0, rfl, rfl, by omega, by simp; omega⟩
    case round =>
      obtain ⟨k, s, rfl, rfl, hk, hs⟩ := hrel
      by_cases hk4 : k < 4
      · have E := rbyte_yes HA.out.1 (A + (3 - k)) (by rw [List.length_range]; omega)
        rw [pl_range (by omega), HA.out.2.2 k hk4, show ((A + (3 - k) : Nat) : Int) = (A : Int) + 3 - (k : Int) by omega] at E
        have hsb : s * 256 + z / 256 ^ (3 - k) % 256 = z / 256 ^ (4 - (k + 1)) := by
          rw [hs, show 4 - k = (3 - k) + 1 by omega, show 4 - (k + 1) = 3 - k by omega, Nat.pow_succ, ← Nat.div_div_eq_div_mul]
          omega
        have hsl : s * 256 + z / 256 ^ (3 - k) % 256 < 4294967296 := by
          rw [hsb]; exact Nat.lt_of_le_of_lt (Nat.div_le_self _ _) hz
        have hbl : z / 256 ^ (3 - k) % 256 < 256 := Nat.mod_lt _ (by decide)
        generalize z / 256 ^ (3 - k) % 256 = t at E hsb hsl hbl
        have E := Lib.hid E
        have HS := Lib.hid hsb
        clear hs hsb
        go_wp2_with fail
        refine E.out.mono ?_
        rintro e y5 ⟨rfl, rfl⟩
        go_wp2_with fail
        go_round
        case rel => exact ⟨k + 1, s * 256 + t, by go_num, by go_num, by omega, HS.out⟩
        case measure => simp [intOf]; omega
      · obtain rfl : k = 4 := by omega
        obtain rfl : s = z := by simpa using hs
        have E := rword_yes HA.out.1 A hy4 (by rw [List.length_range]; omega)
        rw [pl_range (by omega), HA.out.2.1] at E
        have E := Lib.hid E
        have hm : ((A : Int) % 4 == 0) = true := by rw [beq_iff_eq]; omega
        clear hs
        go_wp2_with fail
        refine E.out.mono ?_
        rintro e y5 ⟨rfl, m, rfl⟩
        have hF2 := Lib.hid (below_drewN hF.out m)
        go_wp2_with fail
        go_ret
        exact ⟨rfl, hF2.out⟩
  · have hl : layB n A 4 4 = false := layB_no (by omega)
    have hlen : (le4 z).length = 4 := rfl
    unfold LayPost at HS
    rw [List.length_range, hlen, hl, if_neg (by simp)] at HS
    go_wp2_with fail
    refine HS.out.mono ?_
    rintro e y4 ⟨rfl, hA, hK⟩
    have hF := Lib.hid (Keep.below (HB2.out.2.then hK (fun k hk hlt => by simp at hk; omega)) (Nat.le_refl _) (by simp))
    have E := Lib.hid (rword_no hA.sz A hnl (by rw [List.length_range]; exact hyes))
    have D := rsize_any hA.sz
    rw [List.length_range] at D
    have D := Lib.hid D
    clear hA hK HS
    go_wp2_with fail
    refine E.out.mono ?_
    rintro e y5 ⟨rfl, rfl⟩
    by_cases h4 : A % 4 = 0
    · have hm : ((A : Int) % 4 != 0) = false := by rw [bne_eq_false_iff_eq]; omega
      have hge : 64 * (n : Int) ≤ (A : Int) := by omega
      clear hyes h4
      go_wp2_with fail
      refine D.out.mono ?_
      rintro e y5 ⟨rfl, rfl⟩
      go_wp2_with fail
      go_ret
      exact ⟨rfl, hF.out⟩
    · have hm : ((A : Int) % 4 != 0) = true := by rw [bne_iff_ne]; omega
      clear hyes h4
      go_wp2_with fail
      go_ret
      exact ⟨rfl, hF.out⟩
end Go.Proofs.Yteoanahfbfflbaa
