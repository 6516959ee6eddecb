/- The law RamElsewhere, walked. -/
import Derived.Test.YteoanahfbfflbaaRamP3
import Derived.Test.YteoanahfbfflbaaFits2
namespace Go.Proofs.Yteoanahfbfflbaa
open Go.RowKit Go.Mum

set_option maxRecDepth 100000 in
set_option maxHeartbeats 4000000 in
theorem RamElsewhere_walk (a0 : Int) (s1 : Option Addr) (len1 cap1 n1 : Nat) (c2 : Array Value) (n2 : Nat) (w : World) (_w0 : (Lit.int .i64 a0).wf = true) (w1 : Fits Try.prog w 1048576 n1 30 [.slice s1 len1 cap1]) (w2 : Fits Try.prog w 1048576 n2 33 c2.toList) :
    Calls Try.prog 4 #[.int .i64 a0, .slice s1 len1 cap1, .agg c2] w fun e w' => e = .returned (.bool true) ∧ Below w.heap.size w w' := by
  obtain ⟨M, rfl, hM, hml⟩ := row_of_fits w1
  obtain ⟨z0, z1, rfl, hz0, hz1⟩ := two_of_fits w2
  have hml' : M.length ≤ 1048576 := by omega
  have HM := Lib.hid hM
  clear w1 w2 hM hml
  go_enter Try.func4, Try.ntmps4
  go_wp2_with fail
  refine (made_at a0 _).mono ?_
  rintro e y ⟨r, fb, g, q, n, hn5, hr, hfb, hg, hq, rfl, hB, hK⟩
  have hc0 : y.cell? ⟨w.heap.size, 0, none⟩ = some (.int .u32 z0) := hK.cell (cell_of (heap_alloc_same w _) 0 rfl) (by simp)
  have hc1 : y.cell? ⟨w.heap.size, 1, none⟩ = some (.int .u32 z1) := hK.cell (cell_of (heap_alloc_same w _) 1 rfl) (by simp)
  have HB := Lib.hid (And.intro hB (((Keep.refl [] w).alloc _).trans hK))
  clear hB hK
  go_wp2_with fail
  have hc0' := ((Keep.refl [] y).alloc (.cells #[.slice (some ⟨q, 0, none⟩) (64 * n) (64 * n)] 35)).cell hc0 (by simp)
  have hc1' := ((Keep.refl [] y).alloc (.cells #[.slice (some ⟨q, 0, none⟩) (64 * n) (64 * n)] 35)).cell hc1 (by simp)
  go_quiet ((go_at_call 22; exact quiet_same (near_at _ (by omega) _)))
  have HB2 : Hid (Both ((y.alloc (.cells #[.slice (some ⟨q, 0, none⟩) (64 * n) (64 * n)] 35)).drewN nq) r fb g q n (List.replicate (64 * n) 0) ∧ Keep [] w ((y.alloc (.cells #[.slice (some ⟨q, 0, none⟩) (64 * n) (64 * n)] 35)).drewN nq)) := Lib.hid ⟨HB.out.1.keep0 (((Keep.refl _ _).alloc _).drewN _), (HB.out.2.alloc _).drewN _⟩
  have hA := near_lt hz0
  have hO := near_lt hz1
  generalize near z0 = A at hA
  generalize near z1 = O at hO
  generalize World.drewN _ nq = y2 at HB2
  clear hc0 hc1 hc0' hc1' HB
  have hn1 := HB2.out.1.n1
  have hgw : w.heap.size ≤ g := by simp at hg; omega
  go_wp2_with fail
  refine (rsetbyte_any HB2.out.1.ram O hO 77 (by omega)).mono ?_
  rintro e y3 ⟨rfl, hA3, hK3⟩
  generalize layB _ O _ 1 = ok at hA3
  obtain ⟨L1, hL1, hA3, hl1⟩ : ∃ L1, L1 = (if ok = true then putAt (List.range n) (List.replicate (64 * n) 0) O [77] else List.replicate (64 * n) 0) ∧ RamAt y3 r fb g (List.range n) L1 ∧ L1.length = 64 * n := by
    refine ⟨_, rfl, hA3, ?_⟩
    split
    · rw [putAt_length]; simp
    · simp
  have HB3 : Hid (RamAt y3 r fb g (List.range n) L1 ∧ Keep [] w y3 ∧ L1.length = 64 * n ∧ Row y3 s1 cap1 M) := by
    have hk := HB2.out.2.then hK3 (fun k hk hlt => by simp at hk; omega)
    exact Lib.hid ⟨hA3, hk, hl1, HM.out.keep0 hk⟩
  have hsrc := row_old HM.out hgw
  clear hA3 hK3 hL1 hl1 HB2
  have E1 := rbyte_any HB3.out.1 O hO
  rw [List.length_range] at E1
  have E1 := Lib.hid E1
  have hMr : M = [] ∨ ∀ b, s1 = some b → b.block ≠ g := hsrc
  go_wp2_with fail
  refine E1.out.mono ?_
  rintro e y4 ⟨rfl, rfl⟩
  have HE := Lib.hid (rfill_all HB3.out.1 A hA HB3.out.2.2.2 hMr (by omega))
  by_cases hyes : A + M.length ≤ 64 * n
  · have hl : layB n A M.length 1 = true := layB_yes (by omega)
    unfold LayPost at HE
    rw [List.length_range, hl, if_pos rfl, putAt_range n _ _ _ (by omega) HB3.out.2.2.1] at HE
    go_wp2_with fail
    refine HE.out.mono ?_
    rintro e y5 ⟨rfl, hA5, hK5⟩
    have hls := HB3.out.2.2.1
    have D := rsize_any hA5.sz
    rw [List.length_range] at D
    have D := Lib.hid D
    have E2 := rbyte_any hA5 O hO
    rw [List.length_range] at E2
    have hF := Lib.hid (Keep.below (HB3.out.2.1.then hK5 (fun k hk hlt => by simp at hk; omega)) (Nat.le_refl _) (by simp))
    by_cases hin : A ≤ O ∧ O < 64 * n ∧ O - A < M.length
    · obtain ⟨h1, h2, h3⟩ := hin
      obtain ⟨j, rfl⟩ : ∃ j, O = A + j := ⟨O - A, by omega⟩
      have hj : j < M.length := by omega
      have hR : Row y5 s1 cap1 M := HB3.out.2.2.2.keep (l := [g]) hK5 (by
        intro b hb
        rcases hMr with rfl | h
        · simp at hj
        · simpa using h b hb)
      obtain ⟨b, off, rfl⟩ := hR.some_of (by omega)
      have hcell : y5.cell? ⟨b, off + j, none⟩ = some (.int .u8 (M.getD j 0)) := by
        rcases hR.at' with ⟨hh, _⟩ | ⟨rfl, _⟩ | ⟨b', off', e, hc⟩
        · cases hh
        · simp at hj
        · cases e; exact hc j hj
      have hbv : byteAt (List.range n) (splice L1 A M) (A + j) = M.getD j 0 := by
        unfold byteAt
        rw [List.length_range, if_pos h2, pl_range h2, getD_splice_in hj (by omega)]
      rw [hbv, decide_eq_true h2] at E2
      have E2 := Lib.hid E2
      generalize M.getD j 0 = x at *
      have hlt : (A : Int) + (j : Int) < 64 * (n : Int) := by omega
      have hjm : (j : Int) < (M.length : Int) := by omega
      clear hA5 hK5 HE E1 hbv hR hMr
      go_wp2_with fail
      refine E2.out.mono ?_
      rintro e y6 ⟨rfl, rfl⟩
      go_wp2_with fail
      refine D.out.mono ?_
      rintro e y6 ⟨rfl, rfl⟩
      go_wp2_with fail
      go_ret
      exact ⟨rfl, hF.out⟩
    · have hbv : byteAt (List.range n) (splice L1 A M) O = byteAt (List.range n) L1 O := by
        unfold byteAt
        rw [List.length_range]
        by_cases h2 : O < 64 * n
        · rw [if_pos h2, if_pos h2, pl_range h2, getD_splice_out (by omega) (by omega)]
        · rw [if_neg h2, if_neg h2]
      rw [hbv] at E2
      have E2 := Lib.hid E2
      clear hA5 hK5 HE E1 hbv
      generalize byteAt (List.range n) L1 O = v at *
      by_cases h1 : A ≤ O
      · have h1' : (A : Int) ≤ (O : Int) := by omega
        by_cases h2 : O < 64 * n
        · rw [decide_eq_true h2] at E2 ⊢
          have h2' : (O : Int) < 64 * (n : Int) := by omega
          have h3 : ¬ ((O : Int) - (A : Int) < (M.length : Int)) := by omega
          clear hin
          go_wp2_with fail
          refine E2.out.mono ?_
          rintro e y6 ⟨rfl, rfl⟩
          go_wp2_with fail
          refine D.out.mono ?_
          rintro e y6 ⟨rfl, rfl⟩
          go_wp2_with fail
          go_ret
          exact ⟨rfl, hF.out⟩
        · rw [decide_eq_false h2] at E2 ⊢
          have h2' : ¬ ((O : Int) < 64 * (n : Int)) := by omega
          clear hin
          go_wp2_with fail
          refine E2.out.mono ?_
          rintro e y6 ⟨rfl, rfl⟩
          go_wp2_with fail
          refine D.out.mono ?_
          rintro e y6 ⟨rfl, rfl⟩
          go_wp2_with fail
          go_ret
          exact ⟨rfl, hF.out⟩
      · have h1' : ¬ ((A : Int) ≤ (O : Int)) := by omega
        generalize decide (O < 64 * n) = ob at *
        clear hin h1
        go_wp2_with fail
        refine E2.out.mono ?_
        rintro e y6 ⟨rfl, rfl⟩
        go_wp2_with fail
        go_ret
        exact ⟨rfl, hF.out⟩
  · have D := rsize_any HB3.out.1.sz
    rw [List.length_range] at D
    have hl : layB n A M.length 1 = false := layB_no (by omega)
    unfold LayPost at HE
    rw [List.length_range, hl, if_neg (by simp)] at HE
    go_wp2_with fail
    refine HE.out.mono ?_
    rintro e y5 ⟨rfl, hA5, hK5⟩
    have E2 := rbyte_any hA5 O hO
    rw [List.length_range] at E2
    have E2 := Lib.hid E2
    have D := rsize_any hA5.sz
    rw [List.length_range] at D
    have D := Lib.hid D
    have hF := Lib.hid (Keep.below (HB3.out.2.1.then hK5 (fun k hk hlt => by simp at hk; omega)) (Nat.le_refl _) (by simp))
    clear hA5 hK5 HE E1
    generalize byteAt (List.range n) L1 O = v at *
    generalize decide (O < 64 * n) = ob at *
    go_wp2_with fail
    refine E2.out.mono ?_
    rintro e y6 ⟨rfl, rfl⟩
    by_cases hgt : 64 * n < A
    · have hgt' : 64 * (n : Int) < (A : Int) := by omega
      clear hgt hyes
      go_wp2_with fail
      refine D.out.mono ?_
      rintro e y7 ⟨rfl, rfl⟩
      go_wp2_with fail
      go_ret
      exact ⟨rfl, hF.out⟩
    · have hgt' : ¬ (64 * (n : Int) < (A : Int)) := by omega
      have hml : 64 * (n : Int) - (A : Int) < (M.length : Int) := by omega
      clear hgt hyes
      go_wp2_with fail
      refine D.out.mono ?_
      rintro e y7 ⟨rfl, rfl⟩
      go_wp2_with fail
      refine D.out.mono ?_
      rintro e y7 ⟨rfl, rfl⟩
      go_wp2_with fail
      go_ret
      exact ⟨rfl, hF.out⟩
end Go.Proofs.Yteoanahfbfflbaa
