/- The law ShadowWrites, walked. -/
import Derived.Test.YtpinoejckagjbaaSd5
import Derived.Test.YtpinoejckagjbaaFits
import Derived.Outline
namespace Go.Proofs.Ytpinoejckagjbaa
open Go.RowKit Go.Mum
set_option linter.unusedVariables false
set_option linter.unusedSimpArgs false
set_option maxRecDepth 100000

set_option maxHeartbeats 8000000 in
theorem ShadowWrites_walk (a0 : Int) (s1 : Option Addr) (len1 cap1 n1 : Nat) (w : World) (w0 : (Lit.int .u8 a0).wf = true) (w1 : Fits Try.prog w maxLen n1 25 [.slice s1 len1 cap1]) :
    Calls Try.prog 4 #[.int .u8 a0, .slice s1 len1 cap1] w fun e w' => e = .returned (.bool true) ∧ Below w.heap.size w w' := by
  have HM := Lib.hid (steps_of_fits w1)
  clear w1
  have b0 := wf_u8 w0
  obtain ⟨mo, rfl⟩ : ∃ m : Nat, a0 = (m : Int) := ⟨a0.toNat, by omega⟩
  have hmo : mo < 256 := by omega
  obtain ⟨most, hms⟩ : ∃ m, m = mo % 13 := ⟨_, rfl⟩
  have t1 : ((mo : Int)).tmod 13 = (most : Int) := by rw [Int.tmod_eq_emod_of_nonneg (by omega)]; omega
  have u1 : (mo : Int) % 13 = (most : Int) := by omega
  have t2 : IntKind.i64.wrap (most : Int) = (most : Int) := IntWalk.i64_in _ (by omega)
  have hm12 : most ≤ 12 := by omega
  clear w0 b0
  go_enter Try.func4, Try.ntmps4
  go_wp2_with fail
  refine (smade_at mo hmo _).mono ?_
  rw [← hms]
  rintro e y1 ⟨r, fb, g, s, p, pm, rfl, hS, hk, hn⟩
  obtain ⟨wb, hwb⟩ : ∃ wb, wb = y1.heap.size := ⟨_, rfl⟩
  have H0 : Hid (Two (y1.alloc (.cells #[.int .i64 40, .slice none 0 0, .slice none 0 0, .int .i64 most] 46)) w.heap.size s r fb g p pm wb most (fun _ => tab0) memL0 [] [] 0 ∧ KeepUp w.heap.size w (y1.alloc (.cells #[.int .i64 40, .slice none 0 0, .slice none 0 0, .int .i64 most] 46))) := Lib.hid ⟨by
    rw [hwb]; exact two_start hS (by omega), Keep.upTo (hk.alloc _) (by simp)⟩
  clear hS hk hn hms
  go_wp2_with fail
  rw [← hwb]
  generalize World.alloc y1 _ = y2 at *
  clear hwb
  go_loopw [9] (fun kv wr => ∃ (k : Nat) (T : Nat → Tab) (L : List Int) (ps : List Pg) (ts : List Nat), kv = .int .i64 k ∧ k ≤ len1 ∧ k ≤ 60 ∧ Hid (Two wr w.heap.size s r fb g p pm wb most T L ps ts k ∧ KeepUp w.heap.size w wr)) (fun kv _ => 60 - (intOf kv).toNat)
  case atStart => exact ⟨0, _, _, _, _, rfl, by omega, by omega, H0⟩
  case round =>
    clear H0
    obtain ⟨k, T, L, ps, ts, rfl, hk1, hk2, HR⟩ := hrel
    rename World => wo
    by_cases hlt : k < len1 ∧ k < 60
    · obtain ⟨hl1, hl2⟩ := hlt
      obtain ⟨lb, off, rfl, hl64, kd, fr, va, bb, g1, g2, g3, g4, d0, d1, d2, d3⟩ : ∃ lb off, s1 = some ⟨lb, off, none⟩ ∧ len1 ≤ 9223372036854775807 ∧ ∃ (kd fr : Int) (va bb : Nat), (-9223372036854775808 ≤ kd ∧ kd ≤ 9223372036854775807) ∧ (-9223372036854775808 ≤ fr ∧ fr ≤ 9223372036854775807) ∧ va < 4294967296 ∧ bb < 4294967296 ∧
    wo.cell? ⟨lb, off + k * 4, none⟩ = some (.int .i64 kd) ∧ wo.cell? ⟨lb, off + k * 4 + 1, none⟩ = some (.int .u32 va) ∧ wo.cell? ⟨lb, off + k * 4 + 2, none⟩ = some (.int .i64 fr) ∧ wo.cell? ⟨lb, off + k * 4 + 3, none⟩ = some (.int .u32 bb) := by
        rcases HM.out with h | ⟨lb, off, h1, h2, h3⟩
        · omega
        · obtain ⟨kd, fr, va, bb, g1, g2, g3, g4, d0, d1, d2, d3⟩ := h3 k hl1
          have hb := World.block_lt_of_cell? w _ d0
          exact ⟨lb, off, h1, h2, kd, fr, va, bb, g1, g2, g3, g4, HR.out.2.cell d0 (by simp at hb; omega), HR.out.2.cell d1 (by simp at hb; omega), HR.out.2.cell d2 (by simp at hb; omega), HR.out.2.cell d3 (by simp at hb; omega)⟩
      have hi0 : (0 : Int) ≤ (k : Int) := by omega
      have hi1 : (k : Int) < (len1 : Int) := by omega
      have hi2 : (k : Int) < 60 := by omega
      go_wp2_with fail
      refine (sdo_at HR.out.1 (by omega) (by have := HR.out.2; obtain ⟨l, _, hk⟩ := this; exact hk.size) kd fr va bb g3 g4 g2.1 g2.2 g1.1 g1.2).mono ?_
      rintro e z ⟨q, T', L', ps', ts', rfl, _, hT, hK⟩
      have HN := Lib.hid (And.intro hT (HR.out.2.trans hK))
      clear hT hK
      go_wp2_with fail
      go_roundw
      case rel => exact ⟨k + 1, T', L', ps', ts', by go_num, by omega, by omega, HN⟩
      case measure => simp [intOf]; omega
    · have hex : ¬ ((k : Int) < (len1 : Int)) ∨ (k : Int) < (len1 : Int) ∧ ¬ ((k : Int) < 60) := by omega
      have HD := Lib.hid (And.intro HR.out.1.sat HR.out.2)
      clear hlt hk1 hk2 HR
      rcases hex with h1 | ⟨h1, h1'⟩
      all_goals
        go_wp2_with fail
        go_loopw [11, 12, 13] (fun kv bv jv wr => ∃ (k : Nat) (b j : Value), kv = .int .i64 k ∧ bv = b ∧ jv = j ∧ k ≤ 40 ∧ Hid (Keep [] wo wr)) (fun kv _ _ _ => 40 - (intOf kv).toNat)
        case atStart => exact ⟨0, _, _, rfl, rfl, rfl, by omega, Lib.hid (Keep.refl _ _)⟩
        case round =>
          clear h1
          obtain ⟨k, b, j, rfl, rfl, rfl, hk1, HK⟩ := hrel
          rename World => wq
          by_cases hk40 : k < 40
          · have hki : (k : Int) < 40 := by omega
            have HN := Lib.hid (show k + 1 ≤ 40 by omega)
            by_cases h8 : k = 8
            · subst h8
              go_wp2_with fail
              go_roundw
              case rel => exact ⟨_, _, _, by go_num, rfl, rfl, HN.out, HK⟩
              case measure => simp [intOf]
            by_cases h9 : k = 9
            · subst h9
              go_wp2_with fail
              go_roundw
              case rel => exact ⟨_, _, _, by go_num, rfl, rfl, HN.out, HK⟩
              case measure => simp [intOf]
            have e8 : ((k : Int) == 8) = false := by rw [beq_eq_false_iff_ne]; omega
            have e9 : ((k : Int) == 9) = false := by rw [beq_eq_false_iff_ne]; omega
            have e20 : IntKind.i64.wrap (20 + (most : Int)) = ((20 + most : Nat) : Int) := by rw [IntWalk.i64_in _ (by omega)]; omega
            by_cases h20 : 20 ≤ k ∧ k < 20 + most
            · have a1 : (20 : Int) ≤ (k : Int) := by omega
              have a2 : (k : Int) < ((20 + most : Nat) : Int) := by omega
              clear h20
              go_wp2_with fail
              go_roundw
              case rel => exact ⟨k + 1, _, _, by go_num, rfl, rfl, HN.out, HK⟩
              case measure => simp [intOf]; omega
            · have hcon := rframe_yes (HD.out.1.keep0 HK.out).ram k (by simpa using hk40)
              rw [rest_frame HD.out.1.inv hk40 h8 h9 h20] at hcon
              have hex2 : ¬ ((20 : Int) ≤ (k : Int)) ∨ (20 : Int) ≤ (k : Int) ∧ ¬ ((k : Int) < ((20 + most : Nat) : Int)) := by omega
              clear h8 h9 h20
              rcases hex2 with a1 | ⟨a1, a2⟩
              all_goals
                go_wp2_with fail
                refine hcon.mono ?_
                rintro e z ⟨v, rfl, hO, hkz⟩
                obtain ⟨a, c, rfl, hR⟩ := hO.shape
                rw [List.length_replicate]
                obtain ⟨b, off, rfl, hcs⟩ : ∃ b off, a = some ⟨b, off, none⟩ ∧ ∀ j, j < 64 → z.cell? ⟨b, off + j, none⟩ = some (.int .u8 165) := by
                  rcases hR.at' with ⟨_, h, _⟩ | ⟨h, _⟩ | ⟨b, off, rfl, hc⟩
                  · simp at h
                  · simp at h
                  · exact ⟨b, off, rfl, fun j hj => by have := hc j (by simpa using hj); rwa [getD_rep, if_pos hj] at this⟩
                have HC := Lib.hid hcs
                have HZ := Lib.hid (HK.out.trans hkz)
                clear hcs hR hO hkz hcon
                go_wp2_with fail
                go_loopw [13] (fun jv wr => ∃ j : Nat, jv = .int .i64 j ∧ j ≤ 64 ∧ z = wr) (fun jv _ => 64 - (intOf jv).toNat)
                case atStart => exact ⟨0, rfl, by omega, rfl⟩
                case round =>
                  obtain ⟨j, rfl, hj1, rfl⟩ := hrel
                  by_cases hj : j < 64
                  · have hc := HC.out j hj
                    have j1 : (j : Int) < 64 := by omega
                    have j0 : (0 : Int) ≤ (j : Int) := by omega
                    clear hj1
                    go_wp2_with fail
                    go_roundw
                    case rel => exact ⟨j + 1, by go_num, by omega, trivial⟩
                    case measure => simp [intOf]; omega
                  · have j1 : ¬ ((j : Int) < 64) := by omega
                    clear hj1 hj
                    go_wp2_with fail
                    go_roundw
                    case rel => exact ⟨k + 1, _, _, by go_num, rfl, rfl, HN.out, HZ⟩
                    case measure => simp [intOf]; omega
          · have hki : ¬ ((k : Int) < 40) := by omega
            clear hk1 hk40
            go_wp2_with fail
            refine (sworks_at _).mono ?_
            rintro e z3 ⟨rfl, hk3⟩
            have HF : Hid (Below w.heap.size w z3) := Lib.hid (by
              obtain ⟨l, hl, hk⟩ := HD.out.2
              exact (hk.then (HK.out.trans hk3) (by simp)).below (Nat.le_refl _) hl)
            clear hk3
            go_wp2_with fail
            go_ret
            exact ⟨rfl, HF.out⟩
end Go.Proofs.Ytpinoejckagjbaa
