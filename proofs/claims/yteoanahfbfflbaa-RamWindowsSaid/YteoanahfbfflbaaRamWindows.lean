/- The law RamWindows, walked. -/
import Derived.Test.YteoanahfbfflbaaRamW3
import Derived.Outline
namespace Go.Proofs.Yteoanahfbfflbaa
open Go.RowKit Go.Mum
set_option linter.unusedVariables false

/-- What the test says behind j comparisons in round k. -/
def MayAt (n : Nat) (z : Nat → Int) (k j : Nat) (c : Bool) : Prop := (c = true → (0 ≤ z k ∧ z k < n) ∧ ∀ i, i < j → z i ≠ z k) ∧ (c = false → ¬ okPre n z (k + 1))

theorem MayAt.succ {n : Nat} {z : Nat → Int} {k j : Nat} (h : MayAt n z k j true) (hj : j < k) : MayAt n z k (j + 1) (z j != z k) := by
  refine ⟨fun e => ⟨(h.1 rfl).1, fun i hi => ?_⟩, fun e => ?_⟩
  · by_cases hij : i < j
    · exact (h.1 rfl).2 i hij
    · obtain rfl : i = j := by omega
      simpa using e
  · intro hp
    have := (hp k (by omega)).2 j hj
    simp at e
    exact this e

theorem MayAt.no {n : Nat} {z : Nat → Int} {k j : Nat} (h : MayAt n z k j false) : MayAt n z k (j + 1) false := ⟨fun e => (by cases e), h.2⟩

set_option maxRecDepth 100000 in
set_option maxHeartbeats 8000000 in
theorem RamWindows_walk (a0 : Int) (s1 : Option Addr) (len1 cap1 n1 : Nat) (c2 : Array Value) (n2 : Nat) (w : World) (w0 : (Lit.int .i64 a0).wf = true) (w1 : Fits Try.prog w maxLen n1 68 [.slice s1 len1 cap1]) (w2 : Fits Try.prog w maxLen n2 66 c2.toList) :
    Calls Try.prog 10 #[.int .i64 a0, .slice s1 len1 cap1, .agg c2] w fun e w' => e = .returned (.bool true) ∧ Below w.heap.size w w' := by
  obtain ⟨hlen, z, hz⟩ := nums_of_fits w1
  obtain ⟨x0, x1, x2, x3, rfl, hx0, hx1, hx2, hx3⟩ := quad_of_fits w2
  have HZ := Lib.hid hz
  clear w1 w2 hz w0
  go_enter Try.func10, Try.ntmps10
  go_wp2_with fail
  obtain ⟨cb, hcb⟩ : ∃ cb, cb = w.heap.size := ⟨_, rfl⟩
  generalize hy : w.alloc _ = y0
  have H0 : Hid (Keep [] w y0 ∧ y0.cell? ⟨cb, 0, none⟩ = some (.int .u32 x0) ∧ y0.cell? ⟨cb, 1, none⟩ = some (.int .u32 x1) ∧ y0.cell? ⟨cb, 2, none⟩ = some (.int .u32 x2) ∧ y0.cell? ⟨cb, 3, none⟩ = some (.int .u32 x3) ∧ y0.heap.size = cb + 1) := Lib.hid (by
    subst hy hcb
    exact ⟨(Keep.refl [] w).alloc _, cell_of (heap_alloc_same w _) 0 rfl, cell_of (heap_alloc_same w _) 1 rfl, cell_of (heap_alloc_same w _) 2 rfl, cell_of (heap_alloc_same w _) 3 rfl, by simp⟩)
  rw [← hcb]
  have HCB := Lib.hid hcb
  clear hy hcb
  refine (made_at a0 _).mono ?_
  rintro e y ⟨r, fb, g, q, n, hn5, hr, hfb, hg, hq, rfl, hB, hK⟩
  have hnl : 1 ≤ n := hB.n1.1
  have HB := Lib.hid (And.intro hB hK)
  have hlo := Lib.hid (And.intro hr (And.intro hfb (And.intro hg hq)))
  clear hB hK hr hfb hg hq
  have hd64 : 64 * (n : Int) / 64 = (n : Int) := by omega
  have HP : Hid (∀ y2, y2 = y.alloc (.cells #[.slice (some ⟨q, 0, none⟩) (64 * n) (64 * n)] 35) → Both y2 r fb g q n (List.replicate (64 * n) 0) ∧ Keep [] w y2 ∧ y2.cell? ⟨y.heap.size, 0, none⟩ = some (.slice (some ⟨q, 0, none⟩) (64 * n) (64 * n)) ∧ (y2.cell? ⟨cb, 0, none⟩ = some (.int .u32 x0) ∧ y2.cell? ⟨cb, 1, none⟩ = some (.int .u32 x1) ∧ y2.cell? ⟨cb, 2, none⟩ = some (.int .u32 x2) ∧ y2.cell? ⟨cb, 3, none⟩ = some (.int .u32 x3)) ∧ (cb < y.heap.size ∧ y.heap.size < y2.heap.size) ∧ (r < y.heap.size ∧ fb < y.heap.size ∧ g < y.heap.size ∧ q < y.heap.size) ∧ cb < g ∧ cb < q ∧ w.heap.size = cb) := Lib.hid (by
    rintro y2 rfl
    have k1 : Keep [] y0 (y.alloc (.cells #[.slice (some ⟨q, 0, none⟩) (64 * n) (64 * n)] 35)) := HB.out.2.alloc _
    obtain ⟨h1, h2, h3, h4, h5, h6⟩ := H0.out
    have := HB.out.2.size
    have := hlo.out
    refine ⟨HB.out.1.keep0 ((Keep.refl _ _).alloc _), h1.trans k1, cell_of (heap_alloc_same y _) 0 rfl, ⟨k1.cell h2 (by simp), k1.cell h3 (by simp), k1.cell h4 (by simp), k1.cell h5 (by simp)⟩, ⟨by omega, by simp⟩, HB.out.1.lt, by omega, by omega, HCB.out.symm⟩)
  clear HB H0 hlo HCB
  by_cases hl : 1 ≤ len1 ∧ len1 ≤ n
  · have hl1 : (1 : Int) ≤ (len1 : Int) := by omega
    have hl2 : (len1 : Int) ≤ (n : Int) := by omega
    have hl3 : len1 ≤ n := hl.2
    go_wp2_with fail
    obtain ⟨bx, hbx⟩ : ∃ bx, bx = y.heap.size := ⟨_, rfl⟩
    rw [← hbx] at HP ⊢
    generalize hy2 : y.alloc _ = y2
    have HQ := Lib.hid (HP.out y2 hy2.symm)
    clear hy2 hbx HP
    go_loopw [10, 11] (fun cv kv wr => ∃ (k : Nat) (c : Bool), kv = .int .i64 k ∧ cv = .bool c ∧ k ≤ len1 ∧ (c = true → okPre n z k) ∧ (c = false → ¬ Fine n z len1) ∧ Keep [] y2 wr) (fun _ kv _ => len1 - (intOf kv).toNat)
    case atStart => exact ⟨0, true, rfl, rfl, by omega, fun _ => okPre_zero _ _, fun e => (by cases e), Keep.refl _ _⟩
    case round =>
      obtain ⟨k, c, rfl, rfl, hk, hc1, hc2, hK⟩ := hrel
      rename World => wo
      have HK := Lib.hid hK
      have H1 := Lib.hid hc1
      have H2 := Lib.hid hc2
      clear hc1 hc2 hK
      by_cases hgo : k < len1 ∧ c = true
      · obtain ⟨hlt, rfl⟩ := hgo
        have hpre := Lib.hid (H1.out rfl)
        clear H1 H2
        obtain ⟨lb, off, rfl, hcs⟩ : ∃ b off, s1 = some ⟨b, off, none⟩ ∧ ∀ i, i < len1 → w.cell? ⟨b, off + i, none⟩ = some (.int .i64 (z i)) ∧ -9223372036854775808 ≤ z i ∧ z i ≤ 9223372036854775807 := by
          rcases HZ.out with h | h
          · omega
          · exact h
        have HCS := Lib.hid (fun i hi x (hx : Keep [] wo x) => ((HQ.out.2.1.trans HK.out).trans hx).cell (hcs i hi).1 (by simp))
        have hzk := HCS.out k hlt wo (Keep.refl _ _)
        clear hcs
        have hcase : (¬ 0 ≤ z k) ∨ (0 ≤ z k ∧ ¬ z k < (n : Int)) ∨ (0 ≤ z k ∧ z k < (n : Int)) := by omega
        rcases hcase with hq0 | ⟨hq0, hq1⟩ | ⟨hq0, hq1⟩
        all_goals
          have HM : Hid (MayAt n z k 0 (decide (0 ≤ z k ∧ z k < (n : Int)))) := Lib.hid ⟨fun e => ⟨by simpa using e, fun i hi => absurd hi (by omega)⟩, fun e h => by
            have h1 := (h k (by omega)).1
            simp only [decide_eq_false_iff_not] at e
            exact e h1⟩
          first | rw [decide_eq_true (by omega)] at HM | rw [decide_eq_false (by omega)] at HM
          have HZK : ∀ P : Int → Prop, P (z k) → P (z k) := fun _ h => h
          go_wp2_with fail
          go_loopw [10, 12] (fun cv jv wq => ∃ (j : Nat) (d : Bool), jv = .int .i64 j ∧ cv = .bool d ∧ j ≤ k ∧ Hid (MayAt n z k j d) ∧ Keep [] wo wq) (fun _ jv _ => k - (intOf jv).toNat)
          case atStart => exact ⟨0, _, rfl, rfl, by omega, HM, Keep.refl _ _⟩
          case round =>
            obtain ⟨j, d, rfl, rfl, hj, hM, hK⟩ := hrel
            have HK2 := Lib.hid hK
            by_cases hjk : j < k
            · have hzk2 := HCS.out k hlt wr hK
              have hzj2 := HCS.out j (by omega) wr hK
              have hj0 : (0 : Int) ≤ (j : Int) := by omega
              have hk0 : (0 : Int) ≤ (k : Int) := by omega
              have hj1 : (j : Int) < (len1 : Int) := by omega
              have hk1 : (k : Int) < (len1 : Int) := by omega
              cases d
              · have HMN : Hid (MayAt n z k (j + 1) false) := Lib.hid hM.out.no
                clear hM hK HM hzk
                go_wp2_with fail
                go_quiet (fail)
                go_wp2_with fail
                go_roundw
                case rel => exact ⟨j + 1, _, by go_num, rfl, by omega, HMN, HK2.out.drewN _⟩
                case measure => simp [intOf]; omega
              · have HMN : Hid (MayAt n z k (j + 1) (z j != z k)) := Lib.hid (hM.out.succ hjk)
                clear hM hK HM hzk
                go_wp2_with fail
                go_quiet (fail)
                go_wp2_with fail
                go_roundw
                case rel => exact ⟨j + 1, _, by go_num, rfl, by omega, HMN, HK2.out.drewN _⟩
                case measure => simp [intOf]; omega
            · obtain rfl : j = k := by omega
              have hN : Hid ((d = true → okPre n z (j + 1)) ∧ (d = false → ¬ Fine n z len1)) := Lib.hid ⟨fun e => okPre_succ hpre.out (hM.out.1 e).1 (hM.out.1 e).2, fun e h => hM.out.2 e (okPre_mono h.2 (by omega))⟩
              clear hM hK HM hzk
              go_wp2_with fail
              go_roundw
              case rel => exact ⟨j + 1, d, by go_num, rfl, by omega, hN.out.1, hN.out.2, HK.out.trans HK2.out⟩
              case measure => simp [intOf]; omega
      · have hW := rwindow_at (HQ.out.1.keep0 HK.out).ram (HZ.out.keep0 (HQ.out.2.1.trans HK.out)) hlen (c := cap1)
        unfold WinPost at hW
        rw [List.length_range] at hW
        have HW := Lib.hid hW
        have HB := Lib.hid (And.intro (HQ.out.1.keep0 HK.out) (HQ.out.2.1.trans HK.out))
        clear hW
        cases c
        · have hnf := Lib.hid (H2.out rfl)
          clear H1 H2
          go_wp2_with fail
          all_goals
            refine HW.out.mono ?_
            rintro e y4 (⟨hF, -⟩ | ⟨-, rfl, hK4⟩)
            · exact absurd hF hnf.out
            · have HF := Lib.hid (Keep.below (HB.out.2.trans hK4) (Nat.le_refl _) (by simp))
              clear hK4
              go_wp2_with fail
              go_ret
              exact ⟨rfl, HF.out⟩
        · obtain rfl : k = len1 := by
            have : ¬ (k < len1) := fun h => hgo ⟨h, rfl⟩
            omega
          have hf : Fine n z k := ⟨hl.1, H1.out rfl⟩
          have HFi := Lib.hid hf
          clear H1 H2 hf hgo
          go_wp2_with fail
          refine HW.out.mono ?_
          rintro e y4 (⟨-, r2, fb2, hr2, hfb2, rfl, hA, hK4⟩ | ⟨hF, -⟩)
          rotate_left
          · exact absurd HFi.out hF
          have hKs : (winKs (List.range n) z k).length = k := winKs_length _ _ _
          have hKD : ∀ i, i < k → (winKs (List.range n) z k).getD i 0 = (z i).toNat ∧ (z i).toNat < n ∧ z i = ((z i).toNat : Int) := fun i hi => by
            have h1 := (HFi.out.2 i hi).1
            rw [winKs_getD hi]
            refine ⟨?_, by omega, by omega⟩
            simp [List.getD, List.getElem?_range (show (z i).toNat < n by omega)]
          generalize winKs (List.range n) z k = KS at hA hKs hKD
          have hP : Pair2 y4 r fb g q r2 fb2 n KS (List.replicate (64 * n) 0) := ⟨HB.out.1.keep0 hK4, hA, by have := HB.out.1.lt; omega⟩
          have HP2 := Lib.hid (And.intro hP (HB.out.2.trans hK4))
          have HD := Lib.hid (And.intro hKs hKD)
          have Dv : Hid (∀ x, Keep [] y4 x → Calls Try.prog 18 #[.pointer (some ⟨r2, 0, none⟩)] x fun e w' => e = .returned (.int .u32 (64 * (k : Int))) ∧ x = w') := Lib.hid (fun x hx => by
            have := rsize_any (hA.keep0 hx).sz
            rw [hKs] at this
            exact this)
          have Dr : Hid (∀ x, Keep [] y4 x → Calls Try.prog 18 #[.pointer (some ⟨r, 0, none⟩)] x fun e w' => e = .returned (.int .u32 (64 * (n : Int))) ∧ x = w') := Lib.hid (fun x hx => by
            have := rsize_any (hP.both.ram.keep0 hx).sz
            rw [List.length_range] at this
            exact this)
          have HQC : Hid (∀ x, Keep [] y4 x → (x.cell? ⟨bx, 0, none⟩ = some (.slice (some ⟨q, 0, none⟩) (64 * n) (64 * n)) ∧ (x.cell? ⟨cb, 0, none⟩ = some (.int .u32 x0) ∧ x.cell? ⟨cb, 1, none⟩ = some (.int .u32 x1) ∧ x.cell? ⟨cb, 2, none⟩ = some (.int .u32 x2) ∧ x.cell? ⟨cb, 3, none⟩ = some (.int .u32 x3)))) := Lib.hid (fun x hx => by
            have hk := (HK.out.trans hK4).trans hx
            obtain ⟨-, -, h1, ⟨h2, h3, h4, h5⟩, -⟩ := HQ.out
            exact ⟨hk.cell h1 (by simp), hk.cell h2 (by simp), hk.cell h3 (by simp), hk.cell h4 (by simp), hk.cell h5 (by simp)⟩)
          have hlt : Hid (wo.heap.size ≤ r2 ∧ wo.heap.size ≤ fb2 ∧ bx < wo.heap.size ∧ cb < bx ∧ cb < g ∧ cb < q ∧ g < bx ∧ q < bx ∧ w.heap.size = cb) := Lib.hid (by
            have := HQ.out.2.2.2.2
            have := HK.out.size
            omega)
          clear hr2 hfb2 hA hK4 hKs hKD hP HW HB HQ HK
          go_wp2_with fail
          refine (Dv.out _ (Keep.refl _ _)).mono ?_
          rintro e w' ⟨rfl, rfl⟩
          have g0 := (HQC.out _ (Keep.refl [] y4)).2.1
          have hA := Nat.mod_lt x0 (show 0 < 64 * k by omega)
          have hA2 : ((x0 : Int)).tmod (64 * (k : Int)) = ((x0 % (64 * k) : Nat) : Int) := by rw [Int.tmod_eq_emod_of_nonneg (by omega)]; simp
          have hnz : ((64 * (k : Int)) == 0) = false := beq_eq_false_iff_ne.2 (by omega)
          generalize x0 % (64 * k) = A at hA hA2
          go_wp2_with fail
          go_quiet ((go_at_call 18; exact quiet_same (Dv.out _ ((Keep.refl _ _).drewN _))))
          go_wp2_with fail
          clear g0 hnz hA2
          generalize hy5 : y4.drewN _ = y5
          have hK5 : Keep [] y4 y5 := by subst hy5; exact (Keep.refl _ _).drewN _
          obtain ⟨lb, off, rfl, hcs⟩ : ∃ b off, s1 = some ⟨b, off, none⟩ ∧ ∀ i, i < k → w.cell? ⟨b, off + i, none⟩ = some (.int .i64 (z i)) ∧ -9223372036854775808 ≤ z i ∧ z i ≤ 9223372036854775807 := by
            rcases HZ.out with h | h
            · omega
            · exact h
          have HCS := Lib.hid (fun i hi x (hx : Keep [] y4 x) => (HP2.out.2.trans hx).cell (hcs i hi).1 (by simp))
          have HK5 := Lib.hid hK5
          obtain ⟨i, hi⟩ : ∃ i, i = A / 64 := ⟨_, rfl⟩
          have hik : i < k := by omega
          have hAi : (A : Int) / 64 = (i : Int) := by omega
          obtain ⟨hf1, hf2, hf3⟩ := HD.out.2 i hik
          obtain ⟨f, hf⟩ : ∃ f, f = (z i).toNat := ⟨_, rfl⟩
          rw [← hf] at hf1 hf2 hf3
          have g1 := HCS.out i hik y5 hK5
          rw [hf3] at g1
          obtain ⟨B, hB⟩ : ∃ B, B = 64 * f + A % 64 := ⟨_, rfl⟩
          have hB2 : 64 * (f : Int) + (A : Int) % 64 = (B : Int) := by omega
          have hBn : B < 64 * n := by omega
          have hpl : Hid (pl KS A = B) := Lib.hid (by unfold pl; rw [← hi, hf1, hB])
          have hi1 : (i : Int) < (k : Int) := by omega
          have hi0 : (0 : Int) ≤ (i : Int) := by omega
          clear hy5 hcs hi hf1 hf hf3 hB hK5
          go_wp2_with fail
          rw [hAi]
          have hidx := Go.run_indexAt_slice (P := Try.prog) (w := y5) 68 ⟨lb, off, none⟩ k cap1 .u32 (i : Int) (by kernel_rfl)
          rw [hidx]
          clear hidx
          go_simp
          go_wp2_with fail
          have g2 := (HQC.out _ HK5.out).2.2.2.1
          have hC := Nat.mod_lt x2 (show 0 < 64 * n by omega)
          have hC2 : ((x2 : Int)).tmod (64 * (n : Int)) = ((x2 % (64 * n) : Nat) : Int) := by rw [Int.tmod_eq_emod_of_nonneg (by omega)]; simp
          have hnz : ((64 * (n : Int)) == 0) = false := beq_eq_false_iff_ne.2 (by omega)
          generalize x2 % (64 * n) = C at hC hC2
          clear g1 hB2 hAi
          go_quiet ((go_at_call 18; exact quiet_same (Dr.out _ (HK5.out.drewN _))))
          clear g2 hC2 hnz
          generalize hy6 : y5.drewN _ = y6
          have HK6 : Hid (Keep [] y4 y6) := Lib.hid (by subst hy6; exact HK5.out.drewN _)
          clear hy6 HK5
          obtain ⟨p0, p1, p2, p3, p4⟩ := HQC.out _ HK6.out
          have hA64 : A < 64 * KS.length := by rw [HD.out.1]; exact hA
          have HV := Lib.hid (fun v hv => (HP2.out.1.keep0 HK6.out).setv A hA64 v hv)
          clear hA64
          go_wp2_with fail
          refine (HV.out _ (by first | omega | (rw [IntKind.wrap_u8]; omega))).mono ?_
          rintro e y7 ⟨rfl, hM7, hK7⟩
          rw [hpl.out] at hM7
          have q0 := hK7.cell p0 (by simp; have := hlt.out; omega)
          have q1 := hK7.cell p1 (by simp; have := hlt.out; omega)
          have q2 := hK7.cell p2 (by simp; have := hlt.out; omega)
          have q3 := hK7.cell p3 (by simp; have := hlt.out; omega)
          have q4 := hK7.cell p4 (by simp; have := hlt.out; omega)
          have H7 := Lib.hid (And.intro hM7 hK7)
          clear hM7 hK7 HV p0 p1 p2 p3 p4
          go_wp2_with fail
          refine (H7.out.1.setd B hBn _ (by first | omega | (rw [IntKind.wrap_u8]; omega)) rfl).mono ?_
          rintro e y8 ⟨rfl, hM8, hK8⟩
          generalize List.set _ B _ = L1 at hM8 H7
          have p0 := hK8.cell q0 (by simp; have := hlt.out; omega)
          have p1 := hK8.cell q1 (by simp; have := hlt.out; omega)
          have p2 := hK8.cell q2 (by simp; have := hlt.out; omega)
          have p3 := hK8.cell q3 (by simp; have := hlt.out; omega)
          have p4 := hK8.cell q4 (by simp; have := hlt.out; omega)
          have H8 := Lib.hid (And.intro hM8 hK8)
          have HV := Lib.hid (fun v hv => hM8.setr C hC v hv)
          clear hM8 hK8 q0 q1 q2 q3 q4
          go_wp2_with fail
          refine (HV.out _ (by first | omega | (rw [IntKind.wrap_u8]; omega))).mono ?_
          rintro e y9 ⟨rfl, hM9, hK9⟩
          have q0 := hK9.cell p0 (by simp; have := hlt.out; omega)
          have q1 := hK9.cell p1 (by simp; have := hlt.out; omega)
          have q2 := hK9.cell p2 (by simp; have := hlt.out; omega)
          have q3 := hK9.cell p3 (by simp; have := hlt.out; omega)
          have q4 := hK9.cell p4 (by simp; have := hlt.out; omega)
          have H9 := Lib.hid (And.intro hM9 hK9)
          clear hM9 hK9 HV p0 p1 p2 p3 p4
          go_wp2_with fail
          refine (H9.out.1.setd C hC _ (by first | omega | (rw [IntKind.wrap_u8]; omega)) rfl).mono ?_
          rintro e y10 ⟨rfl, hM10, hK10⟩
          generalize List.set L1 C _ = L2 at hM10 H9
          have hKG : Keep [g, q] y4 y10 := (((HK6.out.weaken (by simp)).trans (H7.out.2.weaken (by simp))).trans ((H8.out.2.weaken (by simp)).trans ((H9.out.2.weaken (by simp)).trans (hK10.weaken (by simp)))))
          have HT : Hid (Pair2 y10 r fb g q r2 fb2 n KS L2 ∧ Keep [] w y10 ∧ y10.cell? ⟨bx, 0, none⟩ = some (.slice (some ⟨q, 0, none⟩) (64 * n) (64 * n)) ∧ ∀ i, i < k → y10.cell? ⟨lb, off + i, none⟩ = some (.int .i64 (z i))) := Lib.hid (by
            have h1 := hlt.out
            refine ⟨hM10, HP2.out.2.then hKG (fun b hb hlt => by simp at hb; omega), hK10.cell q0 (by simp; omega), fun i hi => hKG.cell (HCS.out i hi y4 (Keep.refl _ _)) ?_⟩
            rcases HZ.out with h | ⟨b, o, e, h⟩
            · omega
            · cases e
              have := World.block_lt_of_cell? w _ (h i hi).1
              simp at this
              simp
              omega)
          clear hM10 hK10 hKG q0 q1 q2 q3 q4 H7 H8 H9 HK6 HCS HQC HP2 hC
          go_wp2_with fail
          have hln : (k : Int) ≤ (n : Int) := hl2
          go_loopw [18] (fun jv wr => ∃ j : Nat, jv = .int .i64 j ∧ j ≤ k ∧ Keep [] y10 wr) (fun jv _ => k - (intOf jv).toNat)
          case atStart => exact ⟨0, rfl, by omega, Keep.refl _ _⟩
          case round =>
            obtain ⟨j, rfl, hj, hK⟩ := hrel
            have HKW := Lib.hid hK
            by_cases hjk : j < k
            · obtain ⟨e1, e2, e3⟩ := HD.out.2 j hjk
              have hcb := hK.cell HT.out.2.2.1 (by simp)
              have hcl := hK.cell (HT.out.2.2.2 j hjk) (by simp)
              rw [e3] at hcl
              have F1 := rframe_yes (HT.out.1.win.keep0 hK.drew) j (by rw [HD.out.1]; exact hjk)
              have e4 : frameOf KS L2 j = (L2.drop (64 * (z j).toNat)).take 64 := by unfold frameOf; rw [e1]
              rw [e4] at F1
              have hll := HT.out.1.both.len
              have F2 : ∀ x, Keep [] wr x → Calls Try.prog 36 #[.agg #[.slice (some ⟨q, 0, none⟩) (64 * n) (64 * n)], .int .i64 ((z j).toNat : Nat)] x (RowPost ((L2.drop (64 * (z j).toNat)).take 64) x) := fun x hx => by
                have := fframe_yes (HT.out.1.both.ref.keep0 (hK.trans hx)) (z j).toNat (by omega)
                rw [hll] at this
                exact this
              have hml : ((L2.drop (64 * (z j).toNat)).take 64).length = 64 := by rw [List.length_take, List.length_drop]; omega
              generalize (L2.drop (64 * (z j).toNat)).take 64 = M at F1 F2 hml
              generalize (z j).toNat = f2 at F2 hcl e2
              have HF := Lib.hid (And.intro F1 (And.intro F2 hml))
              have hj0 : (0 : Int) ≤ (j : Int) := by omega
              have hj1 : (j : Int) < (k : Int) := by omega
              clear F1 F2 hml hK e1 e3 e4 hll
              go_wp2_with fail
              refine wp_region_held_drew (S := fun x => Keep [] wr x ∧ x.cell? ⟨bx, 0, none⟩ = some (.slice (some ⟨q, 0, none⟩) (64 * n) (64 * n)) ∧ x.cell? ⟨lb, off + j, none⟩ = some (.int .i64 f2)) (by kernel_rfl) ⟨(Keep.refl [] wr).drew, hcb, hcl⟩ (fun hHeld => ?_)
              skip
              refine wpAnyH_take (i := 0) (oi := { dst := some 167, op := Op.move (Operand.tmp 13), type := 22, pos := "law.go:207", after := #[], guard := none }) (v := ?_) rfl (by kernel_rfl) (by kernel_rfl) (by kernel_rfl) (fun _ _ _ h => h) (Or.inl ⟨by rfl, ?_⟩) (by assumption) ?_
              rotate_left
              focus (intro w hSw; (try dsimp only at hSw); go_simp <;> with_reducible rfl)
              try simp only [Act.put, List.setIfInBounds_toArray, List.set_cons_zero, List.set_cons_succ]
              refine wpAnyH_take (i := 1) (oi := { dst := some 168, op := Op.move (Operand.tmp 18), type := 3, pos := "law.go:207", after := #[], guard := none }) (v := ?_) rfl (by kernel_rfl) (by kernel_rfl) (by kernel_rfl) (fun _ _ _ h => h) (Or.inl ⟨by rfl, ?_⟩) (by assumption) ?_
              rotate_left
              focus (intro w hSw; (try dsimp only at hSw); go_simp <;> with_reducible rfl)
              try simp only [Act.put, List.setIfInBounds_toArray, List.set_cons_zero, List.set_cons_succ]
              refine wpAnyH_take (i := 4) (oi := { dst := some 171, op := Op.load 35 (Operand.tmp 8), type := 35, pos := "law.go:207", after := #[], guard := none }) (v := ?_) rfl (by kernel_rfl) (by kernel_rfl) (by kernel_rfl) (fun _ _ _ h => h) (Or.inl ⟨by rfl, ?_⟩) (by assumption) ?_
              rotate_left
              focus (intro w hSw; (try dsimp only at hSw); go_simp <;> with_reducible rfl)
              try simp only [Act.put, List.setIfInBounds_toArray, List.set_cons_zero, List.set_cons_succ]
              refine wpAnyH_take (i := 5) (oi := { dst := some 172, op := Op.move (Operand.tmp 1), type := 68, pos := "law.go:207", after := #[], guard := none }) (v := ?_) rfl (by kernel_rfl) (by kernel_rfl) (by kernel_rfl) (fun _ _ _ h => h) (Or.inl ⟨by rfl, ?_⟩) (by assumption) ?_
              rotate_left
              focus (intro w hSw; (try dsimp only at hSw); go_simp <;> with_reducible rfl)
              try simp only [Act.put, List.setIfInBounds_toArray, List.set_cons_zero, List.set_cons_succ]
              refine wpAnyH_take (i := 6) (oi := { dst := some 173, op := Op.move (Operand.tmp 18), type := 3, pos := "law.go:207", after := #[], guard := none }) (v := ?_) rfl (by kernel_rfl) (by kernel_rfl) (by kernel_rfl) (fun _ _ _ h => h) (Or.inl ⟨by rfl, ?_⟩) (by assumption) ?_
              rotate_left
              focus (intro w hSw; (try dsimp only at hSw); go_simp <;> with_reducible rfl)
              try simp only [Act.put, List.setIfInBounds_toArray, List.set_cons_zero, List.set_cons_succ]
              refine wpAnyH_take (i := 7) (oi := { dst := some 174, op := Op.indexAddr 68 (Operand.tmp 172) (Operand.tmp 173), type := 0, pos := "law.go:207", after := #[{ on := 5, ground := Ground.data }, { on := 6, ground := Ground.data }], guard := none }) (v := ?_) rfl (by kernel_rfl) (by kernel_rfl) (by kernel_rfl) (fun _ _ _ h => h) (Or.inl ⟨by rfl, ?_⟩) (by assumption) ?_
              rotate_left
              focus (intro w hSw; (try dsimp only at hSw); go_simp <;> with_reducible rfl)
              try simp only [Act.put, List.setIfInBounds_toArray, List.set_cons_zero, List.set_cons_succ]
              refine wpAnyH_take (i := 8) (oi := { dst := some 175, op := Op.load 3 (Operand.tmp 174), type := 3, pos := "law.go:207", after := #[{ on := 7, ground := Ground.data }], guard := none }) (v := ?_) rfl (by kernel_rfl) (by kernel_rfl) (by kernel_rfl) (fun _ _ _ h => h) (Or.inl ⟨by rfl, ?_⟩) (by assumption) ?_
              rotate_left
              focus (intro w hSw; (try dsimp only at hSw); go_simp <;> with_reducible rfl)
              try simp only [Act.put, List.setIfInBounds_toArray, List.set_cons_zero, List.set_cons_succ]
              refine wpAnyH_ready (rs := [2]) (by kernel_rfl) (by simp) ?_
              refine AllReadyH.cons (o := { dst := some 169, op := Op.call { callee := Callee.value (Operand.func 20), args := #[Operand.tmp 167, Operand.tmp 168], argTypes := #[22, 3] }, type := 30, pos := "law.go:207", after := #[{ on := 0, ground := Ground.data }, { on := 1, ground := Ground.data }], guard := none }) rfl (fun K hK => ?_) AllReadyH.nil
              go_simp
              refine HF.out.1.mono ?_
              rintro e y1 hp1
              obtain ⟨b1, c1, rfl, hR1, hK1⟩ := rowPost_own hp1
              rw [HF.out.2.2]
              go_wp2_with fail
              have hq := Lib.hid (And.intro hR1 (hHeld.1.trans hK1))
              clear hp1 hR1
              refine shut_grow (fun x => (Keep [] wr x ∧ x.cell? ⟨bx, 0, none⟩ = some (.slice (some ⟨q, 0, none⟩) (64 * n) (64 * n))) ∧ x.cell? ⟨lb, off + j, none⟩ = some (.int .i64 f2) ∧ (convert 30 9 (.slice b1 64 c1)).run Try.prog x = .ok (.string (strOfNums M)) x) hK (fun _ h => ⟨h.1.1, h.1.2, h.2.1⟩) ⟨⟨hq.out.2, hK1.cell hHeld.2.1 (by simp)⟩, hK1.cell hHeld.2.2 (by simp), str_of hq.out.1 HF.out.2.2.symm⟩ (fun hHeld => ?_)
              clear hK K
              refine wpAnyH_take (i := 3) (oi := { dst := some 170, op := Op.convert 30 9 (Operand.tmp 169), type := 9, pos := "law.go:207", after := #[{ on := 2, ground := Ground.data }], guard := none }) (v := ?_) rfl (by kernel_rfl) (by kernel_rfl) (by kernel_rfl) (fun _ _ _ h => h) (Or.inl ⟨by rfl, ?_⟩) (by assumption) ?_
              rotate_left
              focus (intro w hSw; (try dsimp only at hSw); go_simp <;> with_reducible rfl)
              try simp only [Act.put, List.setIfInBounds_toArray, List.set_cons_zero, List.set_cons_succ]
              refine wpAnyH_ready (rs := [9]) (by kernel_rfl) (by simp) ?_
              refine AllReadyH.cons (o := { dst := some 176, op := Op.call { callee := Callee.value (Operand.func 36), args := #[Operand.tmp 171, Operand.tmp 175], argTypes := #[35, 3] }, type := 30, pos := "law.go:207", after := #[{ on := 4, ground := Ground.data }, { on := 8, ground := Ground.data }, { on := 2, ground := Ground.chain }], guard := none }) rfl (fun K hK => ?_) AllReadyH.nil
              go_simp
              refine (HF.out.2.1 _ hHeld.1.1).mono ?_
              rintro e y2 ⟨b2, c2, rfl, hR2, hK2⟩
              rw [HF.out.2.2]
              go_wp2_with fail
              have hp := Lib.hid (And.intro (hHeld.1.1.trans hK2) (And.intro (hK2.cell hHeld.1.2 (by simp)) (hK2.cell hHeld.2.1 (by simp))))
              refine shut_grow (fun x => x = y2 ∧ (convert 30 9 (.slice b1 64 c1)).run Try.prog x = .ok (.string (strOfNums M)) x ∧ (convert 30 9 (.slice b2 64 c2)).run Try.prog x = .ok (.string (strOfNums M)) x) hK (fun x h => ⟨⟨by rw [h.1]; exact hp.out.1, by rw [h.1]; exact hp.out.2.1⟩, by rw [h.1]; exact hp.out.2.2, h.2.1⟩) ⟨rfl, str_of (hq.out.1.keep0 hK2) HF.out.2.2.symm, str_of hR2 HF.out.2.2.symm⟩ (fun hHeld => ?_)
              clear hK K
              refine wpAnyH_take (i := 10) (oi := { dst := some 177, op := Op.convert 30 9 (Operand.tmp 176), type := 9, pos := "law.go:207", after := #[{ on := 9, ground := Ground.data }], guard := none }) (v := ?_) rfl (by kernel_rfl) (by kernel_rfl) (by kernel_rfl) (fun _ _ _ h => h) (Or.inl ⟨by rfl, ?_⟩) (by assumption) ?_
              rotate_left
              focus (intro w hSw; (try dsimp only at hSw); go_simp <;> with_reducible rfl)
              try simp only [Act.put, List.setIfInBounds_toArray, List.set_cons_zero, List.set_cons_succ]
              refine wpAnyH_take (i := 11) (oi := { dst := some 178, op := Op.binOp BinOp.neq 9 (Operand.tmp 170) (Operand.tmp 177) 9, type := 4, pos := "law.go:207", after := #[{ on := 3, ground := Ground.data }, { on := 10, ground := Ground.data }], guard := none }) (v := ?_) rfl (by kernel_rfl) (by kernel_rfl) (by kernel_rfl) (fun _ _ _ h => h) (Or.inl ⟨by rfl, ?_⟩) (by assumption) ?_
              rotate_left
              focus (intro w hSw; (try dsimp only at hSw); go_simp <;> with_reducible rfl)
              try simp only [Act.put, List.setIfInBounds_toArray, List.set_cons_zero, List.set_cons_succ]
              refine wpAnyH_done (by kernel_rfl) ?_ _
              clear hHeld hK1 hK2
              go_wp2_with fail
              go_roundw
              case rel => exact ⟨j + 1, by go_num, by omega, HKW.out.trans hp.out.1⟩
              case measure => simp [intOf]; omega
            · obtain rfl : j = k := by omega
              have C1 := rbyte_yes (HT.out.1.win.keep0 hK) A (by rw [HD.out.1]; exact hA)
              rw [hpl.out] at C1
              have C2 := rbyte_yes (HT.out.1.both.ram.keep0 hK) B (by rw [List.length_range]; exact hBn)
              rw [pl_range hBn] at C2
              have HC := Lib.hid (And.intro C1 C2)
              have hcb := hK.cell HT.out.2.2.1 (by simp)
              have HSM := Lib.hid (same_at (HT.out.1.both.keep0 hK))
              generalize L2.getD B 0 = v at HC
              clear C1 C2 hK
              go_wp2_with fail
              refine HC.out.1.mono ?_
              rintro e w' ⟨rfl, rfl⟩
              go_wp2_with fail
              refine HC.out.2.mono ?_
              rintro e w' ⟨rfl, rfl⟩
              go_wp2_with fail
              refine HSM.out.mono ?_
              rintro e y11 ⟨rfl, hK11⟩
              have hW11 := HT.out.1.win.keep0 (HKW.out.trans hK11)
              have HCP := rcopy_at hW11
              rw [HD.out.1] at HCP
              have HCP := Lib.hid HCP
              have HK11 := Lib.hid (And.intro hK11 hW11)
              clear hK11 hW11 hcb
              go_wp2_with fail
              refine HCP.out.mono ?_
              rintro e y12 ⟨r3, fb3, g3, hr3, hfb3, hg3, rfl, hA3, hK12⟩
              have S1 := rsize_any hA3.sz
              rw [List.length_range] at S1
              have S2 := rsize_any (HK11.out.2.keep0 hK12).sz
              rw [HD.out.1] at S2
              have HSZ := Lib.hid (And.intro S1 S2)
              have HF := Lib.hid (Keep.below (HT.out.2.1.trans (HKW.out.trans (HK11.out.1.trans hK12))) (Nat.le_refl _) (by simp))
              clear S1 S2 hA3 hK12 hr3 hfb3 hg3
              go_wp2_with fail
              refine HSZ.out.1.mono ?_
              rintro e w' ⟨rfl, rfl⟩
              go_wp2_with fail
              refine HSZ.out.2.mono ?_
              rintro e w' ⟨rfl, rfl⟩
              go_wp2_with fail
              go_ret
              exact ⟨rfl, HF.out⟩
  · have hcase : (1 : Int) ≤ (len1 : Int) ∧ ¬ (len1 : Int) ≤ (n : Int) ∨ ¬ (1 : Int) ≤ (len1 : Int) := by omega
    have hnf : ¬ Fine n z len1 := fun h => hl ⟨h.1, h.le⟩
    have hq := HP.out _ rfl
    have hW := rwindow_at hq.1.ram (HZ.out.keep0 hq.2.1) hlen (c := cap1)
    unfold WinPost at hW
    rw [List.length_range] at hW
    have HW := Lib.hid hW
    have HN := Lib.hid hnf
    have HK := Lib.hid hq.2.1
    clear hW hq hnf HP hl
    rcases hcase with ⟨h1, h2⟩ | h1
    all_goals
      go_wp2_with fail
      refine wp_loop_rounds 1 ?_
      rw [rounds_succ]
      go_wp2_with fail
      all_goals
        refine HW.out.mono ?_
        rintro e y4 (⟨hF, -⟩ | ⟨-, rfl, hK4⟩)
        · exact absurd hF HN.out
        · have HF := Lib.hid (Keep.below (HK.out.trans hK4) (Nat.le_refl _) (by simp))
          clear hK4
          go_wp2_with fail
          go_ret
          exact ⟨rfl, HF.out⟩
end Go.Proofs.Yteoanahfbfflbaa
