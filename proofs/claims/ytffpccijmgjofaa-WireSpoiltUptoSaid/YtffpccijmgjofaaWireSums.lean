/- The law WireSums, walked. -/
import Derived.Test.YtffpccijmgjofaaWire4
import Derived.Test.YtffpccijmgjofaaWireGets
namespace Go.Proofs.Ytffpccijmgjofaa
open Go.RowKit Go.Mum

theorem pieces_two {w : World} {x y : Piece} (hx : Row w x.1 x.2.1 x.2.2) (hy : Row w y.1 y.2.1 y.2.2) :
    Pieces (w.alloc (.cells #[.slice x.1 x.2.2.length x.2.1, .slice y.1 y.2.2.length y.2.1] 22)) (some ⟨w.heap.size, 0, none⟩) 2 [x, y] :=
  ⟨by simp, by
    intro p hp
    rcases List.mem_cons.1 hp with rfl | hp
    · exact hx.keep0 ((Keep.refl [] w).alloc _)
    · obtain rfl : p = y := by simpa using hp
      exact hy.keep0 ((Keep.refl [] w).alloc _), .inr ⟨_, _, rfl, fun i hi => by
    simp only [List.length_cons, List.length_nil] at hi
    match i, hi with
    | 0, _ => exact cell_of (heap_alloc_same w _) 0 rfl
    | 1, _ => exact cell_of (heap_alloc_same w _) 1 rfl⟩⟩

theorem pieces_one {w : World} {x : Piece} (hx : Row w x.1 x.2.1 x.2.2) :
    Pieces (w.alloc (.cells #[.slice x.1 x.2.2.length x.2.1] 22)) (some ⟨w.heap.size, 0, none⟩) 1 [x] :=
  ⟨by simp, by
    intro p hp
    obtain rfl : p = x := by simpa using hp
    exact hx.keep0 ((Keep.refl [] w).alloc _), .inr ⟨_, _, rfl, fun i hi => by
    simp only [List.length_cons, List.length_nil] at hi
    match i, hi with
    | 0, _ => exact cell_of (heap_alloc_same w _) 0 rfl⟩⟩

theorem pieces_none (w : World) : Pieces w none 0 [] := ⟨by simp, (by intro p hp; cases hp), .inl rfl⟩

set_option maxRecDepth 100000 in
set_option maxHeartbeats 4000000 in
theorem WireSums_walk (s0 : Option Addr) (len0 cap0 n0 : Nat) (s1 : Option Addr) (len1 cap1 n1 : Nat) (w : World) (w0 : Fits Try.prog w 1048576 n0 22 [.slice s0 len0 cap0]) (w1 : Fits Try.prog w 1048576 n1 22 [.slice s1 len1 cap1]) :
    Calls Try.prog 6 #[.slice s0 len0 cap0, .slice s1 len1 cap1] w fun e w' => e = .returned (.bool true) ∧ Below w.heap.size w w' := by
  obtain ⟨A, rfl, hA, hlA⟩ := row_of_fits w0
  obtain ⟨B, rfl, hB, hlB⟩ := row_of_fits w1
  have HL := Lib.hid (And.intro hA (And.intro hB (And.intro hlA hlB)))
  have hlA' : A.length ≤ 1048576 := by omega
  have hlB' : B.length ≤ 1048576 := by omega
  have he := empty_u8
  clear w0 w1 hA hB hlA hlB
  go_enter Try.func6, Try.ntmps6
  go_wp2_with (first
    | (at_builtin; refine wpList_append_row rfl _ _ 22 rfl w.heap.size 5 Try.underlying22 info_u8 (.slice (some ⟨w.heap.size, 0, none⟩) 0 0) [] A rfl (Own.empty (heap_alloc_at _ rfl) (Nat.le_refl _)) s0 _ cap0 rfl rfl (HL.out.1.keep0 ((Keep.refl [] w).alloc _)) (by simp; omega) (by simp) ?_; intro v1 y1 ho hg; have H1 : Hid (Own y1 w.heap.size 5 v1 A ∧ Keep [] w y1) := Lib.hid (And.intro ho (((Keep.refl [] w).alloc _).grown hg (by simp [Value.ownBlock]))); clear ho hg; have z1 := H1.out.2.size)
    | (at_builtin; refine wpList_append_row rfl _ _ 22 rfl w.heap.size 5 Try.underlying22 info_u8 v1 A B rfl H1.out.1 s1 _ cap1 rfl rfl (HL.out.2.1.keep0 H1.out.2) (by omega) (by omega) ?_; intro v2 y2 ho hg; have H2 := Lib.hid (And.intro ho (own_grown H1.out.2 hg H1.out.1)); clear ho hg))
  obtain ⟨T, hT⟩ : ∃ T, T = A ++ B := ⟨_, rfl⟩
  have HT := Lib.hid hT
  rw [← hT] at H2
  clear hT
  obtain ⟨b2, c2, rfl, hR2⟩ := H2.out.1.shape
  have HR := Lib.hid (And.intro hR2 H2.out.2)
  clear H2 hR2
  have C1 := sum_at (pieces_two (w := y2) (x := (s0, cap0, A)) (y := (s1, cap1, B)) (HL.out.1.keep0 HR.out.2) (HL.out.2.1.keep0 HR.out.2))
  rw [show joined [(s0, cap0, A), (s1, cap1, B)] = T by rw [HT.out]; simp [joined]] at C1
  refine C1.mono ?_
  rintro e y ⟨rfl, rfl⟩
  clear C1
  go_wp2_with fail
  have K3 : Hid (Keep [] w (y2.alloc (.cells #[.slice s0 A.length cap0, .slice s1 B.length cap1] 22))) := Lib.hid (HR.out.2.alloc _)
  generalize hy : y2.alloc _ = y3 at K3
  have HR3 : Hid (Row y3 b2 c2 T) := Lib.hid (by rw [← hy]; exact HR.out.1.keep0 ((Keep.refl [] y2).alloc _))
  clear hy
  refine (rsum_at HR3.out).mono ?_
  rintro e y ⟨rfl, rfl⟩
  go_wp2_with fail
  have C1 := sum_at (pieces_one (w := y3) (x := (b2, c2, T)) HR3.out)
  rw [show joined [(b2, c2, T)] = T by simp [joined]] at C1
  refine C1.mono ?_
  rintro e y ⟨rfl, rfl⟩
  clear C1
  go_wp2_with fail
  have K4 : Hid (Keep [] w (y3.alloc (.cells #[.slice b2 T.length c2] 22))) := Lib.hid (K3.out.alloc _)
  generalize hy : y3.alloc _ = y4 at K4
  have HR4 : Hid (Row y4 b2 c2 T) := Lib.hid (by rw [← hy]; exact HR3.out.keep0 ((Keep.refl [] y3).alloc _))
  clear hy
  refine (rsum_at HR4.out).mono ?_
  rintro e y ⟨rfl, rfl⟩
  go_wp2_with fail
  refine (sum_at (pieces_none y4)).mono ?_
  rintro e y ⟨rfl, rfl⟩
  have h0 : sumOf (joined []) = 0 := rfl
  rw [h0]
  go_wp2_with fail
  refine (works_at _).mono ?_
  rintro e y5 ⟨rfl, hK5⟩
  have hF := Lib.hid (Keep.below (K4.out.trans hK5) (Nat.le_refl _) (by simp))
  clear hK5
  go_wp2_with fail
  go_ret
  exact ⟨rfl, hF.out⟩
end Go.Proofs.Ytffpccijmgjofaa
