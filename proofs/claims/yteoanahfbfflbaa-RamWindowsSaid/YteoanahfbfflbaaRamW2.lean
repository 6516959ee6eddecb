/- A window of a memory, made. -/
import Derived.Test.YteoanahfbfflbaaRamW1
import Derived.Outline
import Derived.Deep.RegionLaw
import Derived.Deep.AppendLies
import Derived.Deep.DrawnRows
namespace Go.Proofs.Yteoanahfbfflbaa
open Go.RowKit Go.Mum

set_option maxRecDepth 100000 in
set_option maxHeartbeats 4000000 in
theorem rwindow_at {w : World} {r fb g : Nat} {ks : List Nat} {L : List Int} (h : RamAt w r fb g ks L) {s : Option Addr} {len c : Nat} {z : Nat → Int} (hz : Nums w s len z) (hl : len ≤ 9223372036854775807) :
    Calls Try.prog 34 #[.pointer (some ⟨r, 0, none⟩), .slice s len c] w (WinPost g ks L z len w) := by
  have C := Lib.hid (rsize_any h.sz)
  have hs := h.size
  obtain ⟨cap, hc⟩ := h.hcell
  have H := Lib.hid h
  have hnz : ((64 * (ks.length : Int)) == 0) = false := beq_eq_false_iff_ne.2 (by omega)
  have hlt := h.lt
  clear h
  by_cases h0 : len = 0
  · subst h0
    have HF : Hid (WinPost g ks L z 0 w (.returned (.tuple #[.pointer none, .int .i64 2])) w) := Lib.hid (.inr ⟨fun h => by have := h.1; omega, rfl, Keep.refl _ _⟩)
    clear hz
    go_enter Try.func34, Try.ntmps34
    go_wp2_with fail
    refine C.out.mono ?_
    rintro e w' ⟨rfl, rfl⟩
    go_wp2_with fail
    go_ret2
    exact HF.out
  · by_cases h5 : 512 < len
    · have HF : Hid (WinPost g ks L z len w (.returned (.tuple #[.pointer none, .int .i64 2])) w) := Lib.hid (.inr ⟨fun h => by have := h.le; omega, rfl, Keep.refl _ _⟩)
      clear hz
      have h0' : ((len : Int) == 0) = false := beq_eq_false_iff_ne.2 (by omega)
      have h5' : (512 : Int) < (len : Int) := by omega
      clear h0 h5
      go_enter Try.func34, Try.ntmps34
      go_wp2_with fail
      refine C.out.mono ?_
      rintro e w' ⟨rfl, rfl⟩
      go_wp2_with fail
      go_ret2
      exact HF.out
    · obtain ⟨lb, off, rfl, hcs⟩ : ∃ b off, s = some ⟨b, off, none⟩ ∧ ∀ i, i < len → w.cell? ⟨b, off + i, none⟩ = some (.int .i64 (z i)) ∧ -9223372036854775808 ≤ z i ∧ z i ≤ 9223372036854775807 := by
        rcases hz with h | h
        · exact absurd h h0
        · exact h
      have HC := Lib.hid hcs
      have h0' : ((len : Int) == 0) = false := beq_eq_false_iff_ne.2 (by omega)
      have h5' : ¬ ((512 : Int) < (len : Int)) := by omega
      have h1 : 1 ≤ len := by omega
      have hmk := fun w => run_make_row' (P := Try.prog) 95 4 (.bool false) 1 Try.underlying95 (by kernel_rfl) rfl .i64 .i64 ks.length (by omega) (by omega) w
      clear hz hcs h0 h5
      go_enter Try.func34, Try.ntmps34
      go_wp2_with fail
      refine C.out.mono ?_
      rintro e w' ⟨rfl, rfl⟩
      go_wp2_with fail
      obtain ⟨r2, hr2⟩ : ∃ r2, r2 = w.heap.size := ⟨_, rfl⟩
      generalize hy : (w.alloc _).alloc _ = y
      have HY : Hid (WinAt w y r2 (r2 + 1) g ks z 0 (.slice none 0 0)) := Lib.hid (by
        subst hy hr2
        refine ⟨heap_alloc_other _ (heap_alloc_same _ _), (arrAt_new _ _ _ _ (by simp)).ext (fun j _ => by simp [among]), World.ownsRow_nil _ _ _ _, ((Keep.refl _ _).alloc _).alloc _, by simp⟩)
      rw [← hr2]
      have HR := Lib.hid hr2
      clear hy hr2 hmk hnz h0' h5' hc
      go_loopw [9, 31] (fun _ iv wr => ∃ (k : Nat) (fv : Value), iv = .int .i64 k ∧ k ≤ len ∧ okPre ks.length z k ∧ WinAt w wr r2 (r2 + 1) g ks z k fv) (fun _ iv _ => len - (intOf iv).toNat)
      case atStart => exact ⟨0, _, rfl, by omega, okPre_zero _ _, HY.out⟩
      case round =>
        clear HY
        obtain ⟨k, fv, rfl, hk, hpre, hW⟩ := hrel
        have HW := Lib.hid hW
        have HP := Lib.hid hpre
        by_cases hlt : k < len
        · obtain ⟨hc0, hc1, hc2⟩ := HC.out k hlt
          have hzk := hW.keep.cell hc0 (by simp)
          have hR := H.out.keep0 hW.keep
          obtain ⟨cap, hrc⟩ := hR.hcell
          have hbad : ¬ okPre ks.length z (k + 1) → Hid (WinPost g ks L z len w (.returned (.tuple #[.pointer none, .int .i64 2])) wr) := fun hn => Lib.hid (.inr ⟨fun h => hn (okPre_mono h.2 (by omega)), rfl, hW.keep⟩)
          by_cases hneg : z k < 0
          · have HF := hbad (fun h => by have := (h k (by omega)).1; omega)
            generalize z k = zk at *
            clear hpre hW hR hbad hc0 HW HP hc1 hc2
            go_wp2_with fail
            go_ret2
            exact HF.out
          · by_cases hbig : (ks.length : Int) ≤ z k
            · have HF := hbad (fun h => by have := (h k (by omega)).1; omega)
              generalize z k = zk at *
              clear hpre hW hR hbad hc0 HW HP hc1 hc2
              go_wp2_with fail
              go_ret2
              exact HF.out
            · obtain ⟨f, hf⟩ : ∃ f : Nat, z k = f := ⟨(z k).toNat, by omega⟩
              have hfl : f < ks.length := by omega
              have htk := hW.taken.cell (j := f) hfl
              rw [hf] at hzk
              cases hb : among z k f with
              | true =>
                have HF := hbad (fun h => by
                  obtain ⟨i, hi, e⟩ := among_yes hb
                  exact (h k (by omega)).2 i hi (by rw [e, hf]))
                rw [hb] at htk
                clear hpre hW hR hbad hc0 HW HP hc1 hc2 hf hneg hbig hb
                go_wp2_with fail
                go_ret2
                exact HF.out
              | false =>
                have hPN : Hid (okPre ks.length z (k + 1)) := Lib.hid (okPre_succ hpre (by omega) (by rw [hf]; exact among_no hb))
                have hrow := hR.row hfl
                have hne := HR.out
                have hfz := hW.taken.frozen f
                rw [hb] at htk
                have HF := Lib.hid hf
                have hf0 : (0 : Int) ≤ (f : Int) := by omega
                have hf1 : (f : Int) < (ks.length : Int) := by omega
                have hcell : wr.cell? ⟨r2, 0, none⟩ = some fv := cell_of hW.head 0 rfl
                have hK1 : Hid (Keep [r2 + 1] wr (wr.setCell ⟨r2 + 1, f, none⟩ (.bool true)) ∧ wr.cell? ⟨r2, 0, none⟩ = some fv ∧ wr.cell? ⟨r, 0, none⟩ = some (.slice (some ⟨fb, 0, none⟩) ks.length cap) ∧ wr.cell? ⟨fb, f, none⟩ = some (.slice (some ⟨g, 64 * ks.getD f 0, none⟩) 64 64)) := Lib.hid ⟨(Keep.refl _ _).setCell (.inl (by simp)) _, hcell, hrc, hrow⟩
                clear hbad hpre hW hR hc0 HP hc1 hc2 hf hneg hbig hb hrow hne hcell
                go_wp2_with fail
                generalize hwt : wr.setCell _ _ = wt
                have HT := Lib.hid hwt.symm
                rw [hwt] at hK1
                have e1 := hK1.out.1.cell hK1.out.2.1 (by simp)
                have e2 := hK1.out.1.cell hK1.out.2.2.1 (by have := HR.out; simp; omega)
                have e3 := hK1.out.1.cell hK1.out.2.2.2 (by have := HR.out; simp; omega)
                obtain ⟨p, hp⟩ : ∃ p, p = 64 * ks.getD f 0 := ⟨_, rfl⟩
                have HPP := Lib.hid hp
                rw [← hp] at e3
                have HO := Lib.hid (owns_keep HW.out.own hK1.out.1 (by intro b hb; have := (HW.out.own.lt b hb).1; simp; omega))
                have e4 := fun o => ((Keep.refl [] wt).alloc o).cell e1 (by simp)
                have hsz : r2 + 2 ≤ wt.heap.size := by have := hK1.out.1.size; have := HW.out.lt; omega
                obtain ⟨i1, hi, hz0, hz1, hz2⟩ := info_parts info_rows
                clear hwt hp hK1 htk hfz hzk hrc
                go_region_law (refine step_append_lies _ (by rfl) (.tmp 59) (.tmp 67) 73 (by rfl) (r2 + 2) 30 i1 (.slice none 0 0) 1 24 Try.underlying73 hi hz0 hz1 hz2 rfl (by decide) fv k (winRows g ks z k) (by rfl) (owns_keep0 HO.out (by first | exact ((Keep.refl [] _).alloc _).drew | exact ((Keep.refl [] _).drew).alloc _)) ⟨_, 0, none⟩ 1 1 [.slice (some ⟨g, p, none⟩) 64 64] (by rfl) rfl (World.news_of_block (heap_alloc_new _ _)) (by simp [Value.oneCell']) (by omega) (by unfold maxLen; omega) (by omega) (by simp; omega) _ rfl ?_; intro gg cap w1 hown1 hgrow _ _; have HX := Lib.hid (WinAt.more HW.out HF.out HT.out (x := _) (by first | exact ((Keep.refl [] _).alloc _).drew | exact ((Keep.refl [] _).drew).alloc _) (by rw [← HPP.out]; exact hown1) hgrow); clear hown1 hgrow; have hx1 := HX.out.1; have hx2 := HX.out.2.1)
                all_goals
                  go_wp2_with fail
                  go_roundw
                  case rel => exact ⟨k + 1, _, by go_num, by omega, hPN.out, HX.out.2.2⟩
                  case measure => simp [intOf]; omega
        · obtain rfl : k = len := by omega
          have HF : Hid (WinPost g ks L z k w (.returned (.tuple #[.pointer (some ⟨r2, 0, none⟩), .int .i64 0])) wr) := Lib.hid (hW.done H.out ⟨h1, hpre⟩)
          clear hpre hW HW HP
          go_wp2_with fail
          go_ret2
          exact HF.out
end Go.Proofs.Yteoanahfbfflbaa
