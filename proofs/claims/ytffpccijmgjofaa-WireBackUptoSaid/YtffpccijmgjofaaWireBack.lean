/- The law WireBack, walked. -/
import Derived.Test.YtffpccijmgjofaaWireRows
namespace Go.Proofs.Ytffpccijmgjofaa
open Go.RowKit Go.Mum

/-- A number that was laid is read, whatever stands behind it. -/
theorem getL_number : ∀ (m j acc : Nat) (more : List Int), j ≤ 9 → acc < 128 ^ j → (0 < j → 0 < m) → acc + 128 ^ j * m < 2 ^ 64 →
    getL j acc (number m ++ more) = (acc + 128 ^ j * m, j + (number m).length, 0) := by
  intro m
  induction m using Nat.strongRecOn with
  | _ m ih =>
    intro j acc more hj hacc h0 hb
    have h9 : j = 9 → 128 ^ j = 9223372036854775808 := by rintro rfl; decide
    by_cases hs : m < 128
    · have c1 : ¬ (j = 9 ∧ (1 : Int) < (m : Int)) := by
        rintro ⟨e, h1⟩
        rw [h9 e] at hb
        omega
      rw [number_small hs, List.singleton_append, getL, if_neg c1, if_neg (by omega), if_neg (by omega)]
      simp only [List.length_singleton, Prod.mk.injEq, and_true]
      rw [Int.toNat_natCast, Nat.mod_eq_of_lt hs, Nat.mul_comm]
    · have c1 : ¬ (j = 9 ∧ (1 : Int) < ((m % 128 + 128 : Nat) : Int)) := by
        rintro ⟨e, h1⟩
        rw [h9 e] at hb
        omega
      have hj8 : j ≠ 9 := fun e => by rw [h9 e] at hb; omega
      have hx : (((m % 128 + 128 : Nat) : Int).toNat) % 128 = m % 128 := by omega
      have hJ := join7 acc j ((m % 128 + 128 : Nat) : Int) ⟨by omega, by omega⟩ hacc (.inl (by omega))
      rw [hx] at hJ
      have hsum : acc + m % 128 * 128 ^ j + 128 ^ (j + 1) * (m / 128) = acc + 128 ^ j * m := by
        have h1 : 128 ^ (j + 1) * (m / 128) + m % 128 * 128 ^ j = 128 ^ j * m := by
          rw [Nat.pow_succ, Nat.mul_assoc, Nat.mul_comm (m % 128), ← Nat.mul_add, Nat.div_add_mod]
        omega
      rw [number_big hs, List.cons_append, getL, if_neg c1, if_pos (by omega), hx, ih (m / 128) (by omega) (j + 1) _ more (by omega) hJ.2 (fun _ => by omega) (by rw [hsum]; exact hb), hsum, List.length_cons]
      simp only [Prod.mk.injEq, and_true, true_and]
      omega

theorem getL_back (n : Nat) (more : List Int) (hn : n < 2 ^ 64) : getL 0 0 (number n ++ more) = (n, (number n).length, 0) := by
  have := getL_number n 0 0 more (by omega) (by decide) (fun h => by omega) (by omega)
  simpa using this

theorem getB_back (M more : List Int) (hn : M.length < 2 ^ 63) : getB (number M.length ++ M ++ more) M.length = (M, (number M.length).length + M.length, 0) := by
  unfold getB
  rw [List.append_assoc, getL_back _ _ (by omega)]
  rw [if_neg (by simp), if_neg (by simp), if_neg (by simp)]
  simp

set_option maxRecDepth 100000 in
set_option maxHeartbeats 4000000 in
theorem WireBack_walk (a0 : Int) (s1 : Option Addr) (len1 cap1 n1 : Nat) (s2 : Option Addr) (len2 cap2 n2 : Nat) (w : World) (w0 : (Lit.int .u64 a0).wf = true) (w1 : Fits Try.prog w 1048576 n1 22 [.slice s1 len1 cap1]) (w2 : Fits Try.prog w 1048576 n2 22 [.slice s2 len2 cap2]) :
    Calls Try.prog 8 #[.int .u64 a0, .slice s1 len1 cap1, .slice s2 len2 cap2] w fun e w' => e = .returned (.bool true) ∧ Below w.heap.size w w' := by
  obtain ⟨M, rfl, hR1, hl1⟩ := row_of_fits w1
  obtain ⟨R, rfl, hR2, hl2⟩ := row_of_fits w2
  have hb := wf_u64 w0
  obtain ⟨n, rfl⟩ : ∃ n : Nat, a0 = n := ⟨a0.toNat, by omega⟩
  have hn : n < 2 ^ 64 := by omega
  have hlM : M.length ≤ 1048576 := by omega
  have hlR : R.length ≤ 1048576 := by omega
  have hnl := number_len10 hn
  have hnm := number_len10 (n := M.length) (by omega)
  have HL := Lib.hid (And.intro hR1 (And.intro hR2 (And.intro hn (getL_back n R hn))))
  have HB := Lib.hid (getB_back M R (by omega))
  clear w0 w1 w2 hR1 hR2 hl1 hl2 hb hn
  go_enter Try.func8, Try.ntmps8
  go_wp2_with fail
  refine (put_at n HL.out.2.2.1 (Row.nil w) (by simp)).mono ?_
  rintro e y1 ⟨v1, rfl, hO1, hK1⟩
  rw [List.nil_append] at hO1
  obtain ⟨b1, c1, rfl, -⟩ := hO1.shape
  have H1 := Lib.hid (And.intro hO1 hK1)
  have z1 := hK1.size
  clear hO1 hK1
  go_wp2_with (at_builtin; refine wpList_append_row rfl _ _ 22 rfl w.heap.size 5 Try.underlying22 info_u8 (.slice b1 (number n).length c1) (number n) R rfl H1.out.1 s2 _ cap2 rfl rfl (HL.out.2.1.keep0 H1.out.2) (by omega) (by omega) ?_; intro v2 y2 ho hg; have HG := Lib.hid (And.intro ho (own_grown H1.out.2 hg H1.out.1)); clear ho hg)
  obtain ⟨b2, c2, hv, hR2⟩ := HG.out.1.shape
  rw [List.length_append] at hv
  subst hv
  have C := Lib.hid (get_at hR2)
  rw [HL.out.2.2.2, List.length_append] at C
  unfold getV at C
  have K2 := Lib.hid HG.out.2
  clear HG hR2
  go_wp2_with fail
  refine C.out.mono ?_
  rintro e y ⟨rfl, rfl⟩
  clear C
  go_wp2_with fail
  refine (putB_at (Row.nil _) (HL.out.1.keep0 K2.out) (by simp) (by omega)).mono ?_
  rintro e y3 ⟨v3, rfl, hO3, hK3⟩
  rw [List.nil_append] at hO3
  obtain ⟨b3, c3, hv, -⟩ := hO3.shape
  rw [List.length_append] at hv
  subst hv
  have H3 := Lib.hid (And.intro (hO3.lower K2.out.size) (K2.out.trans hK3))
  have z3 := (K2.out.trans hK3).size
  clear hO3 hK3
  go_wp2_with (at_builtin; refine wpList_append_row rfl _ _ 22 rfl w.heap.size 5 Try.underlying22 info_u8 (.slice b3 ((number M.length).length + M.length) c3) (number M.length ++ M) R rfl H3.out.1 s2 _ cap2 rfl rfl (HL.out.2.1.keep0 H3.out.2) (by simp; omega) (by omega) ?_; intro v4 y4 ho hg; have HG := Lib.hid (And.intro ho (own_grown H3.out.2 hg H3.out.1)); clear ho hg)
  obtain ⟨b4, c4, hv, hR4⟩ := HG.out.1.shape
  rw [List.length_append, List.length_append] at hv
  subst hv
  have C := Lib.hid (getB_at hR4 (by simp; omega) M.length (by omega))
  rw [HB.out, List.length_append, List.length_append] at C
  have K4 := Lib.hid HG.out.2
  clear HG hR4
  go_wp2_with fail
  refine C.out.mono ?_
  rintro e y5 ⟨b5, c5, rfl, hR5, hK5⟩
  have K5 := Lib.hid (K4.out.trans hK5)
  have g5 : Str y5 b5 M.length c5 M := str_of hR5 rfl
  have g1 : Str y5 s1 M.length cap1 M := str_of (HL.out.1.keep0 K5.out) rfl
  unfold Str at g5 g1
  clear C hR5 hK5
  go_wp2_with fail
  refine (works_at _).mono ?_
  rintro e y6 ⟨rfl, hK6⟩
  have hF := Lib.hid (Keep.below (K5.out.trans hK6) (Nat.le_refl _) (by simp))
  clear hK6
  go_wp2_with fail
  go_ret
  exact ⟨rfl, hF.out⟩
end Go.Proofs.Ytffpccijmgjofaa
