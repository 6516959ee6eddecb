/- Contracts of the functions that the law reaches, walked, and the plain laws on them (several texts in one). -/
import Derived.Outline
import Derived.Test.YtnpnedimgfbnhaaM16
import Derived.Test.YtnpnedimgfbnhaaM18

/- A guest's memory and marks, made twice. -/
namespace Go.Proofs.Ytnpnedimgfbnhaa
open Go.RowKit Go.Mum
set_option linter.unusedVariables false
set_option linter.unusedSimpArgs false
set_option maxRecDepth 100000

theorem laid_whole {n : Nat} {L0 L : List Int} (h0 : L0.length = 64 * n) (h : L.length = 64 * n) : layB n 0 L.length 1 = true ∧ laid n L0 0 L 1 = L := by
  have hy : layB n 0 L.length 1 = true := layB_yes (by omega)
  refine ⟨hy, ?_⟩
  unfold laid splice
  rw [if_pos hy]
  simp [h, ← h0]

theorem row_of_heap {w : World} {g : Nat} {L : List Int} (h : w.heap[g]? = some (.cells (u8s L).toArray 5 (0, 0))) (hb : IsBytes L) (hl : L.length ≤ 32768) : Row w (some ⟨g, 0, none⟩) L.length L :=
  RefAt.row ⟨.inr ⟨g, rfl, h⟩, hb, hl⟩

theorem InsIn.keep0 {w x : World} {s : Option Addr} {len : Nat} (h : InsIn w s len) (hk : Keep [] w x) : InsIn x s len := by
  rcases h with h | ⟨lb, off, h1, h2, h3⟩
  · exact .inl h
  · refine .inr ⟨lb, off, h1, h2, fun i hi => ?_⟩
    obtain ⟨z0, z1, z2, z3, a, b, c, d, e, f, g, k⟩ := h3 i hi
    exact ⟨z0, z1, z2, z3, a, b, c, d, hk.cell e (by simp), hk.cell f (by simp), hk.cell g (by simp), hk.cell k (by simp)⟩

/-- A memory and marks, the program's and the document's. -/
structure MadeAt (w wr : World) (r fb g b m1 m2 q c t n : Nat) (L : List Int) (s1 s2 : List Int) : Prop where
  ram : RamAt wr r fb g (List.range n) L
  marks : MarksAt wr b m1 m2 n s1 s2
  ref : RefN wr q n L
  rm : RMarks wr c t n s1 s2
  keep : Keep [] w wr
  in1 : ∀ x ∈ s1, 0 ≤ x ∧ x < (n : Int)
  in2 : ∀ x ∈ s2, 0 ≤ x ∧ x < (n : Int)
  order : (w.heap.size ≤ q ∧ q < c ∧ q < t) ∧ (c < r ∧ c < fb ∧ c < g ∧ t < r ∧ t < fb ∧ t < g) ∧ (r < b ∧ r < m1 ∧ r < m2 ∧ fb < b ∧ fb < m1 ∧ fb < m2 ∧ g < b ∧ g < m1 ∧ g < m2)

/-- What made leaves. -/
def LMade (w : World) (e : Ending) (w' : World) : Prop :=
  ∃ (n r fb g b m1 m2 q c t : Nat) (L s1 s2 : List Int), e = .returned (.tuple #[.pointer (some ⟨r, 0, none⟩), .pointer (some ⟨b, 0, none⟩), .agg #[.slice (some ⟨q, 0, none⟩) (64 * n) (64 * n)], rval c t n]) ∧ 1 ≤ n ∧ n ≤ 24 ∧ MadeAt w w' r fb g b m1 m2 q c t n L s1 s2

theorem mark1_in {n : Nat} {f k : Int} {s : List Int} (h : ∀ x ∈ s, 0 ≤ x ∧ x < (n : Int)) : ∀ x ∈ mark1 n f k s, 0 ≤ x ∧ x < (n : Int) := by
  unfold mark1
  split
  · rename_i hh
    intro x hx
    rcases mem_ins.1 hx with rfl | hx
    · exact ⟨hh.2.2.1, hh.2.2.2⟩
    · exact h x hx
  · exact h

theorem mark2_in {n : Nat} {f k : Int} {s : List Int} (h : ∀ x ∈ s, 0 ≤ x ∧ x < (n : Int)) : ∀ x ∈ mark2 n f k s, 0 ≤ x ∧ x < (n : Int) := by
  unfold mark2
  split
  · rename_i hh
    intro x hx
    rcases mem_ins.1 hx with rfl | hx
    · exact ⟨hh.2.2.1, hh.2.2.2⟩
    · exact h x hx
  · exact h

theorem info_guest : (Try.prog.info? 46).map (·.size) = some 25 := by kernel_rfl

set_option maxHeartbeats 8000000 in
theorem made_at (fr en : Int) (is cs ss ds ms : Option Addr) (ic cl cc sl sc dl dc mlen mcap : Nat) (IL : List Int) (f : Nat → Value) (ps cr : Int) (w : World) (hI : Row w is ic IL) (hC : InsIn w cs cl) (hil : IL.length ≤ 9223372036854775807) (he0 : 0 ≤ en) (he1 : en ≤ 65535) (hM : MarksIn w ms mlen) :
    Calls Try.prog 12 #[.agg #[.int .i64 fr, .slice is IL.length ic, .slice cs cl cc, .int .u16 en, f 0, f 1, f 2, f 3, f 4, f 5, f 6, f 7, f 8, .int .u32 ps, .int .u32 cr, f 11, f 12, f 13, f 14, f 15, f 16, f 17, f 18, .slice ss sl sc, .slice ds dl dc], .slice ms mlen mcap] w (LMade w) := by
  have HM := Lib.hid hM
  have HL := Lib.hid (fun y (hy : Keep [] w y) => laid_at fr en is cs ss ds ic cl cc sl sc dl dc IL f ps cr y (hI.keep hy (fun _ _ => by simp)) (hC.keep0 hy) hil he0 he1)
  clear hM hI hC
  go_enter Try.func12, Try.ntmps12
  obtain ⟨sz, hsz⟩ : ∃ sz, sz = w.heap.size := ⟨_, rfl⟩
  have hgs : (((w.alloc (.cells #[.int .i64 fr, .slice is IL.length ic, .slice cs cl cc, .int .u16 en, f 0, f 1, f 2, f 3, f 4, f 5, f 6, f 7, f 8, .int .u32 ps, .int .u32 cr, f 11, f 12, f 13, f 14, f 15, f 16, f 17, f 18, .slice ss sl sc, .slice ds dl dc] 46)).alloc (.cells #[.slice none 0 0] 50)).alloc (.cells #[.slice none 0 0, .slice none 0 0] 53)).rangeAt sz 0 [.int .i64 fr, .slice is IL.length ic, .slice cs cl cc, .int .u16 en, f 0, f 1, f 2, f 3, f 4, f 5, f 6, f 7, f 8, .int .u32 ps, .int .u32 cr, f 11, f 12, f 13, f 14, f 15, f 16, f 17, f 18, .slice ss sl sc, .slice ds dl dc] := by
    subst hsz
    exact rangeAcc (by repeat first | (refine heap_alloc_at _ ?_; (simp; done)) | refine heap_alloc_other _ ?_)
  go_wp2_with (refine wpList_load_mid rfl 46 (.tmp 2) rfl sz 0 (by rw [hsz]; rfl) [.int .i64 fr, .slice is IL.length ic, .slice cs cl cc, .int .u16 en, f 0, f 1, f 2, f 3, f 4, f 5, f 6, f 7, f 8, .int .u32 ps, .int .u32 cr, f 11, f 12, f 13, f 14, f 15, f 16, f 17, f 18, .slice ss sl sc, .slice ds dl dc] _ hgs Try.underlying46 rfl info_guest ?_)
  rw [← hsz]
  generalize hy : World.alloc (World.alloc (World.alloc w _) _) _ = y0
  have H0 : Hid (Keep [] w y0 ∧ y0.heap[sz + 1]? = some (.cells #[.slice none 0 0] 50 (0, 0)) ∧ y0.heap[sz + 1 + 1]? = some (.cells #[.slice none 0 0, .slice none 0 0] 53 (0, 0)) ∧ w.heap.size = sz ∧ y0.heap.size = sz + 3) := Lib.hid (by
    subst hy hsz
    refine ⟨(((Keep.refl _ _).alloc _).alloc _).alloc _, ?_, ?_, rfl, by simp⟩
    all_goals repeat first | (refine heap_alloc_at _ ?_; (simp; done)) | refine heap_alloc_other _ ?_)
  clear hy hsz hgs
  refine (HL.out _ H0.out.1).mono ?_
  rintro e y1 ⟨g0, n, L, rfl, hn1, hn2, hg, hl, hb, hg0, hk⟩
  have H1 : Hid (y1.heap[g0]? = some (.cells (u8s L).toArray 5 (0, 0)) ∧ IsBytes L ∧ L.length = 64 * n ∧ Keep [] y0 y1 ∧ sz + 3 ≤ g0) := Lib.hid ⟨hg, hb, hl, hk, by have := H0.out.2.2.2.2; omega⟩
  clear hg hl hb hg0 hk
  go_wp2_with fail
  refine (fnew_at n _ (by omega)).mono ?_
  rintro e y2 ⟨rfl, hR, hk2⟩
  obtain ⟨q, hq⟩ : ∃ q, q = y1.heap.size + 1 := ⟨_, rfl⟩
  rw [← hq] at hR ⊢
  have H2 : Hid (RefN y2 q n (List.replicate (64 * n) 0) ∧ Keep [] y1 y2 ∧ g0 < q ∧ y2.heap[sz + 1]? = some (.cells #[.slice none 0 0] 50 (0, 0)) ∧ y2.heap[sz + 1 + 1]? = some (.cells #[.slice none 0 0, .slice none 0 0] 53 (0, 0)) ∧ Keep [] w y2) := Lib.hid (by
    refine ⟨⟨hR, by simp⟩, hk2, by have := lt_of_heap H1.out.1; omega, ?_, ?_, H0.out.1.trans (H1.out.2.2.2.1.trans hk2)⟩
    · exact hk2.heap (H1.out.2.2.2.1.heap H0.out.2.1 (by simp)) (by simp)
    · exact hk2.heap (H1.out.2.2.2.1.heap H0.out.2.2.1 (by simp)) (by simp))
  clear hR hk2 hq
  go_wp2_with fail
  obtain ⟨wbx, hwb⟩ : ∃ b, b = y2.heap.size := ⟨_, rfl⟩
  rw [← hwb]
  generalize hy3 : World.alloc y2 _ = y3
  have H3 : Hid (y3.heap[wbx]? = some (.cells #[.slice (some ⟨q, 0, none⟩) (64 * n) (64 * n)] 50 (0, 0)) ∧ Keep [] y2 y3 ∧ wbx = y2.heap.size) := Lib.hid (by
    subst hy3
    exact ⟨heap_alloc_at _ hwb, (Keep.refl _ _).alloc _, hwb⟩)
  clear hy3 hwb
  have C3 : Hid (Calls Try.prog 25 #[.agg #[.slice (some ⟨q, 0, none⟩) (64 * n) (64 * n)], .int .u32 0, .slice (some ⟨g0, 0, none⟩) (64 * n) (64 * n)] y3 (fun e w' => e = .returned (.bool true) ∧ RefN w' q n L ∧ Keep [q] y3 w')) := Lib.hid (by
    have hk03 : Keep [] y1 y3 := H2.out.2.1.trans H3.out.2.1
    have hM := row_of_heap (hk03.heap H1.out.1 (by simp)) H1.out.2.1 (by have := H1.out.2.2.1; omega)
    have hC := bfill_d (RefN.keep0 H2.out.1 H3.out.2.1) 0 (by omega) hM (.inr (by intro b hb; cases hb; have := H2.out.2.2.1; simp; omega)) (by have := H1.out.2.2.1; omega)
    obtain ⟨e1, e2⟩ := laid_whole (n := n) (L0 := List.replicate (64 * n) 0) (by simp) H1.out.2.2.1
    rw [H1.out.2.2.1] at hC
    refine hC.mono ?_
    rintro e w' ⟨rfl, h2, h3⟩
    rw [e1]
    rw [e2] at h2
    exact ⟨rfl, ⟨h2, H1.out.2.2.1⟩, h3⟩)
  refine C3.out.mono ?_
  rintro e y4 ⟨rfl, hR4, hk4⟩
  have H4 : Hid (RefN y4 q n L ∧ y4.heap[g0]? = some (.cells (u8s L).toArray 5 (0, 0)) ∧ y4.heap[wbx]? = some (.cells #[.slice (some ⟨q, 0, none⟩) (64 * n) (64 * n)] 50 (0, 0)) ∧ y4.heap[sz + 1]? = some (.cells #[.slice none 0 0] 50 (0, 0)) ∧ y4.heap[sz + 1 + 1]? = some (.cells #[.slice none 0 0, .slice none 0 0] 53 (0, 0)) ∧ Keep [] w y4 ∧ q < y4.heap.size ∧ sz + 3 ≤ q ∧ sz + 3 ≤ wbx) := Lib.hid (by
    have a1 := H1.out.2.2.2.2
    have a2 := H2.out.2.2.1
    have a3 := H0.out.2.2.2.1
    have a4 : q < y2.heap.size := lt_of_heap (H2.out.1.ref.1.resolve_left (by simp) |>.elim fun x h => by cases h.1; exact h.2)
    have a5 := H3.out.2.2
    have a6 := hk4.size
    have a7 := H3.out.2.1.size
    refine ⟨hR4, hk4.heap (H3.out.2.1.heap (H2.out.2.1.heap H1.out.1 (by simp)) (by simp)) (by simp; omega), hk4.heap H3.out.1 (by simp; omega), hk4.heap (H3.out.2.1.heap H2.out.2.2.2.1 (by simp)) (by simp; omega), hk4.heap (H3.out.2.1.heap H2.out.2.2.2.2.1 (by simp)) (by simp; omega), (H2.out.2.2.2.2.2.trans H3.out.2.1).then hk4 (by simp; omega), by omega, by omega, by omega⟩)
  clear hR4 hk4 C3 HL
  go_wp2_with fail
  refine (rnew_at n (by omega) _).mono ?_
  rintro e y5 ⟨c, t, hc, ht, rfl, hM5, hk5⟩
  have H5 := Lib.hid (And.intro hM5 (And.intro hk5 (And.intro hc ht)))
  clear hM5 hk5 hc ht
  unfold rval
  go_wp2_with fail
  obtain ⟨xbx, hxb⟩ : ∃ b, b = y5.heap.size := ⟨_, rfl⟩
  rw [← hxb]
  generalize hy6 : World.alloc y5 _ = y6
  have H6 : Hid (y6.heap[xbx]? = some (.cells #[.slice (some ⟨c, 0, none⟩) n n, .slice (some ⟨t, 0, none⟩) n n] 53 (0, 0)) ∧ RMarks y6 c t n [] [] ∧ Keep [] y4 y6 ∧ c < y6.heap.size ∧ t < y6.heap.size) := Lib.hid (by
    subst hy6
    have hk := (Keep.refl [] y5).alloc (Obj.cells #[.slice (some ⟨c, 0, none⟩) n n, .slice (some ⟨t, 0, none⟩) n n] 53)
    refine ⟨heap_alloc_at _ hxb, H5.out.1.keep hk (by simp) (by simp), H5.out.2.1.trans hk, ?_, ?_⟩
    · have := H5.out.1.one.lt; have := hk.size; omega
    · have := H5.out.1.two.lt; have := hk.size; omega)
  have HXB := Lib.hid hxb
  clear hy6 hxb
  refine (rnew_good n _ (by omega) (by omega)).mono ?_
  rintro e y7 ⟨r, fb, g, hr, hfb, hg, rfl, hA, hk7⟩
  have H7 : Hid (RamAt y7 r fb g (List.range n) (List.replicate (64 * n) 0) ∧ Keep [] y6 y7 ∧ y6.heap.size ≤ r ∧ y6.heap.size ≤ fb ∧ y6.heap.size ≤ g ∧ r < y7.heap.size ∧ fb < y7.heap.size ∧ g < y7.heap.size) := Lib.hid (by
    obtain ⟨cap, h1, _⟩ := hA.head
    obtain ⟨cs', h2, _⟩ := hA.rows
    exact ⟨hA, hk7, hr, hfb, hg, lt_of_heap h1, lt_of_heap h2, lt_of_heap hA.data⟩)
  clear hA hk7 hr hfb hg
  go_wp2_with fail
  refine (mnew_good n _ (by omega) (by omega)).mono ?_
  rintro e y8 ⟨b, m1, m2, hb, hm1, hm2, rfl, hMk, hk8⟩
  have H8 : Hid (MarksAt y8 b m1 m2 n [] [] ∧ Keep [] y7 y8 ∧ y7.heap.size ≤ b ∧ y7.heap.size ≤ m1 ∧ y7.heap.size ≤ m2) := Lib.hid ⟨hMk, hk8, hb, hm1, hm2⟩
  clear hMk hk8 hb hm1 hm2
  have C8 : Hid (Calls Try.prog 27 #[.pointer (some ⟨r, 0, none⟩), .int .u32 0, .slice (some ⟨g0, 0, none⟩) (64 * n) (64 * n)] y8 (fun e w' => e = .returned (.bool true) ∧ RamAt w' r fb g (List.range n) L ∧ Keep [g] y8 w')) := Lib.hid (by
    have hk48 : Keep [] y4 y8 := H6.out.2.2.1.trans (H7.out.2.1.trans H8.out.2.1)
    have hl := H1.out.2.2.1
    have hM := row_of_heap (hk48.heap H4.out.2.1 (by simp)) H1.out.2.1 (by omega)
    have hg0 : g0 < y4.heap.size := lt_of_heap H4.out.2.1
    have hC := rfill_all (H7.out.1.keep H8.out.2.1 (by simp) (by simp) (by simp)) 0 (by omega) hM (.inr (by intro b hb; cases hb; have := H7.out.2.2.2.2.1; have := H6.out.2.2.1.size; simp; omega)) (by omega)
    obtain ⟨e1, e2⟩ := laid_whole (n := n) (L0 := List.replicate (64 * n) 0) (by simp) hl
    rw [hl] at hC
    refine hC.mono ?_
    rintro e w' ⟨rfl, h2, h3⟩
    rw [List.length_range, hl] at h2 ⊢
    rw [hl] at e1
    rw [e1] at h2 ⊢
    unfold laid at e2
    rw [hl, e1, if_pos rfl] at e2
    rw [if_pos rfl, putAt_range n L _ 0 (by omega) (by simp), e2] at h2
    exact ⟨rfl, h2, h3⟩)
  go_wp2_with fail
  refine C8.out.mono ?_
  rintro e y9 ⟨rfl, hA9, hk9⟩
  have H9 : Hid (MadeAt w y9 r fb g b m1 m2 q c t n L [] [] ∧ y9.heap[wbx]? = some (.cells #[.slice (some ⟨q, 0, none⟩) (64 * n) (64 * n)] 50 (0, 0)) ∧ y9.heap[xbx]? = some (.cells #[.slice (some ⟨c, 0, none⟩) n n, .slice (some ⟨t, 0, none⟩) n n] 53 (0, 0)) ∧ y9.heap[sz + 1]? = some (.cells #[.slice none 0 0] 50 (0, 0)) ∧ y9.heap[sz + 1 + 1]? = some (.cells #[.slice none 0 0, .slice none 0 0] 53 (0, 0))) := Lib.hid (by
    have a1 := H4.out.2.2.2.2.2.2
    have hk48 : Keep [] y4 y8 := H6.out.2.2.1.trans (H7.out.2.1.trans H8.out.2.1)
    have hk68 : Keep [] y6 y8 := H7.out.2.1.trans H8.out.2.1
    have a2 := H6.out.2.2.1.size
    have a3 := H7.out.2.2.2.2.1
    have a4 := lt_of_heap H4.out.2.2.1
    have a5 := lt_of_heap H4.out.2.2.2.1
    have a6 := lt_of_heap H4.out.2.2.2.2.1
    have a7 := lt_of_heap H6.out.1
    have a8 := H8.out.2.2
    have a9 := H7.out.2.2.2.2.2
    have a10 := H4.out.2.2.2.2.2.1.size
    have a11 := H0.out.2.2.2.1
    have a12 := HXB.out
    have a13 := H5.out.2.2
    have a14 := H6.out.2.2.2
    have a15 := H7.out.2.2
    have a16 := H5.out.2.1.size
    refine ⟨⟨hA9, H8.out.1.keep hk9 (by simp; omega) (by simp; omega) (by simp; omega), ⟨RefAt.keep (RefAt.keep0 H4.out.1.ref hk48) hk9 (by intro b hb; cases hb; simp; omega), H4.out.1.len⟩, (H6.out.2.1.keep hk68 (by simp) (by simp)).keep hk9 (by simp; omega) (by simp; omega), (H4.out.2.2.2.2.2.1.trans hk48).then hk9 (by simp; omega), by simp, by simp, ⟨by omega, by omega, by omega⟩, by omega, by omega⟩, hk9.heap (hk48.heap H4.out.2.2.1 (by simp)) (by simp; omega), hk9.heap (hk68.heap H6.out.1 (by simp)) (by simp; omega), hk9.heap (hk48.heap H4.out.2.2.2.1 (by simp)) (by simp; omega), hk9.heap (hk48.heap H4.out.2.2.2.2.1 (by simp)) (by simp; omega)⟩)
  have HB : Hid (w.heap.size = sz ∧ wbx < c ∧ wbx < t ∧ wbx < m1 ∧ wbx < m2 ∧ xbx < m1 ∧ xbx < m2 ∧ c < xbx ∧ t < xbx ∧ sz + 3 ≤ c ∧ sz + 3 ≤ t ∧ sz + 3 ≤ m1 ∧ sz + 3 ≤ m2 ∧ sz + 3 ≤ wbx ∧ sz + 3 ≤ q) := Lib.hid (by
    have a1 := H4.out.2.2.2.2.2.2
    have a2 := H6.out.2.2.1.size
    have a4 := lt_of_heap H4.out.2.2.1
    have a7 := lt_of_heap H6.out.1
    have a8 := H8.out.2.2
    have a9 := H7.out.2.2
    have a11 := H0.out.2.2.2.1
    have a12 := HXB.out
    have a13 := H5.out.2.2
    have a14 := H5.out.1.one.lt
    have a15 := H5.out.1.two.lt
    have a16 := H7.out.2.1.size
    omega)
  clear C8 hA9 hk9
  go_wp2_with fail
  go_loopw [16] (fun kv wr => ∃ (k : Nat) (s1 s2 : List Int), kv = .int .i64 k ∧ k ≤ 40 ∧ k ≤ mlen ∧ Hid (MadeAt w wr r fb g b m1 m2 q c t n L s1 s2 ∧ wr.heap[wbx]? = some (.cells #[.slice (some ⟨q, 0, none⟩) (64 * n) (64 * n)] 50 (0, 0)) ∧ wr.heap[xbx]? = some (.cells #[.slice (some ⟨c, 0, none⟩) n n, .slice (some ⟨t, 0, none⟩) n n] 53 (0, 0)) ∧ wr.heap[sz + 1]? = some (.cells #[.slice none 0 0] 50 (0, 0)) ∧ wr.heap[sz + 1 + 1]? = some (.cells #[.slice none 0 0, .slice none 0 0] 53 (0, 0)))) (fun kv _ => 40 - (intOf kv).toNat)
  case atStart => exact ⟨0, [], [], rfl, by omega, by omega, H9⟩
  case round =>
    clear H9
    obtain ⟨k, s1, s2, rfl, hk1, hk2, HR⟩ := hrel
    rename World => wo
    by_cases hlt : k < mlen ∧ k < 40
    · obtain ⟨hl1, hl2⟩ := hlt
      obtain ⟨lb, off, rfl, hl64, fr', kd, hfr, hkd, c0, c1⟩ : ∃ lb off, ms = some ⟨lb, off, none⟩ ∧ mlen ≤ 9223372036854775807 ∧ ∃ fr kd : Nat, fr < 256 ∧ kd < 256 ∧ wo.cell? ⟨lb, off + k * 2, none⟩ = some (.int .u8 fr) ∧ wo.cell? ⟨lb, off + k * 2 + 1, none⟩ = some (.int .u8 kd) := by
        rcases HM.out with h | ⟨lb, off, h1, h2, h3⟩
        · omega
        · obtain ⟨fr, kd, q1, q2, q3, q4⟩ := h3 k hl1
          exact ⟨lb, off, h1, h2, fr, kd, q1, q2, HR.out.1.keep.cell q3 (by simp), HR.out.1.keep.cell q4 (by simp)⟩
      have hlw : Hid (lb < w.heap.size) := Lib.hid (by
        rcases HM.out with h | ⟨lb', off', h1, h2, h3⟩
        · omega
        · cases h1
          obtain ⟨fr, kd, q1, q2, q3, q4⟩ := h3 k hl1
          have := World.block_lt_of_cell? w _ q3
          simpa using this)
      obtain ⟨ff, hf⟩ : ∃ f, f = fr' % n := ⟨_, rfl⟩
      obtain ⟨qk, hq⟩ : ∃ q, q = kd % 2 := ⟨_, rfl⟩
      have hfn : ff < n := by rw [hf]; exact Nat.mod_lt _ (by omega)
      have t1 : ((fr' : Int)).tmod (n : Int) = (ff : Int) := by rw [Int.tmod_eq_emod_of_nonneg (by omega), hf]; exact (Int.natCast_emod _ _).symm
      have t2 : ((kd : Int)).tmod 2 = (qk : Int) := by rw [Int.tmod_eq_emod_of_nonneg (by omega)]; omega
      have u1 : (fr' : Int) % (n : Int) = (ff : Int) := by rw [hf]; exact (Int.natCast_emod _ _).symm
      have u2 : (kd : Int) % 2 = (qk : Int) := by omega
      have hq2 : qk < 2 := by omega
      have t3 : IntKind.i64.wrap (1 + (qk : Int)) = 1 + (qk : Int) := IntWalk.i64_in _ (by omega)
      have t4 : IntKind.i64.wrap (fr' : Int) = (fr' : Int) := IntWalk.i64_in _ (by omega)
      have t5 : IntKind.i64.wrap (qk : Int) = (qk : Int) := IntWalk.i64_in _ (by omega)
      have t6 : IntKind.i64.wrap (ff : Int) = (ff : Int) := IntWalk.i64_in _ (by omega)
      have hn0 : ¬ ((n : Int) = 0) := by omega
      have hn00 : ¬ (n = 0) := by omega
      have hn0' : ((n : Int) == 0) = false := by simp; omega
      have hk0 : (0 : Int) ≤ (k : Int) := by omega
      have hk3 : (k : Int) < (mlen : Int) := by omega
      have hk4 : (k : Int) < 40 := by omega
      clear hf hq
      go_wp2_with fail
      refine wp_region_held_drew (S := fun x => x.cell? ⟨lb, off + k * 2, none⟩ = some (.int .u8 fr') ∧ x.cell? ⟨lb, off + k * 2 + 1, none⟩ = some (.int .u8 kd)) (by kernel_rfl) ⟨c0, c1⟩ (fun hHeld => ?_)
      skip
      refine wpAnyH_take (i := 0) (oi := { dst := some 63, op := Op.move (Operand.tmp 14), type := 26, pos := "law.go:37", after := #[], guard := none }) (v := ?_) rfl (by kernel_rfl) (by kernel_rfl) (by kernel_rfl) (fun _ _ _ h => h) (Or.inl ⟨by rfl, ?_⟩) (by assumption) ?_
      rotate_left
      focus (intro w hSw; (try dsimp only at hSw); go_simp <;> with_reducible rfl)
      try simp only [Act.put, List.setIfInBounds_toArray, List.set_cons_zero, List.set_cons_succ]
      refine wpAnyH_take (i := 1) (oi := { dst := some 64, op := Op.move (Operand.tmp 1), type := 23, pos := "law.go:37", after := #[], guard := none }) (v := ?_) rfl (by kernel_rfl) (by kernel_rfl) (by kernel_rfl) (fun _ _ _ h => h) (Or.inl ⟨by rfl, ?_⟩) (by assumption) ?_
      rotate_left
      focus (intro w hSw; (try dsimp only at hSw); go_simp <;> with_reducible rfl)
      try simp only [Act.put, List.setIfInBounds_toArray, List.set_cons_zero, List.set_cons_succ]
      refine wpAnyH_take (i := 2) (oi := { dst := some 65, op := Op.move (Operand.tmp 16), type := 3, pos := "law.go:37", after := #[], guard := none }) (v := ?_) rfl (by kernel_rfl) (by kernel_rfl) (by kernel_rfl) (fun _ _ _ h => h) (Or.inl ⟨by rfl, ?_⟩) (by assumption) ?_
      rotate_left
      focus (intro w hSw; (try dsimp only at hSw); go_simp <;> with_reducible rfl)
      try simp only [Act.put, List.setIfInBounds_toArray, List.set_cons_zero, List.set_cons_succ]
      refine wpAnyH_take (i := 3) (oi := { dst := some 66, op := Op.indexAddr 23 (Operand.tmp 64) (Operand.tmp 65), type := 0, pos := "law.go:37", after := #[{ on := 1, ground := Ground.data }, { on := 2, ground := Ground.data }], guard := none }) (v := ?_) rfl (by kernel_rfl) (by kernel_rfl) (by kernel_rfl) (fun _ _ _ h => h) (Or.inl ⟨by rfl, ?_⟩) (by assumption) ?_
      rotate_left
      focus (intro w hSw; (try dsimp only at hSw); go_simp <;> with_reducible rfl)
      try simp only [Act.put, List.setIfInBounds_toArray, List.set_cons_zero, List.set_cons_succ]
      refine wpAnyH_take (i := 4) (oi := { dst := some 67, op := Op.fieldAddr 32 (Operand.tmp 66) 0, type := 0, pos := "law.go:37", after := #[{ on := 3, ground := Ground.data }], guard := none }) (v := ?_) rfl (by kernel_rfl) (by kernel_rfl) (by kernel_rfl) (fun _ _ _ h => h) (Or.inl ⟨by rfl, ?_⟩) (by assumption) ?_
      rotate_left
      focus (intro w hSw; (try dsimp only at hSw); go_simp <;> with_reducible rfl)
      try simp only [Act.put, List.setIfInBounds_toArray, List.set_cons_zero, List.set_cons_succ]
      refine wpAnyH_take (i := 5) (oi := { dst := some 68, op := Op.load 5 (Operand.tmp 67), type := 5, pos := "law.go:37", after := #[{ on := 4, ground := Ground.data }], guard := none }) (v := ?_) rfl (by kernel_rfl) (by kernel_rfl) (by kernel_rfl) (fun _ _ _ h => h) (Or.inl ⟨by rfl, ?_⟩) (by assumption) ?_
      rotate_left
      focus (intro w hSw; (try dsimp only at hSw); go_simp <;> with_reducible rfl)
      try simp only [Act.put, List.setIfInBounds_toArray, List.set_cons_zero, List.set_cons_succ]
      refine wpAnyH_take (i := 6) (oi := { dst := some 69, op := Op.convert 5 3 (Operand.tmp 68), type := 3, pos := "law.go:37", after := #[{ on := 5, ground := Ground.data }], guard := none }) (v := ?_) rfl (by kernel_rfl) (by kernel_rfl) (by kernel_rfl) (fun _ _ _ h => h) (Or.inl ⟨by rfl, ?_⟩) (by assumption) ?_
      rotate_left
      focus (intro w hSw; (try dsimp only at hSw); go_simp <;> with_reducible rfl)
      try simp only [Act.put, List.setIfInBounds_toArray, List.set_cons_zero, List.set_cons_succ]
      refine wpAnyH_take (i := 7) (oi := { dst := some 70, op := Op.move (Operand.tmp 9), type := 3, pos := "law.go:37", after := #[], guard := none }) (v := ?_) rfl (by kernel_rfl) (by kernel_rfl) (by kernel_rfl) (fun _ _ _ h => h) (Or.inl ⟨by rfl, ?_⟩) (by assumption) ?_
      rotate_left
      focus (intro w hSw; (try dsimp only at hSw); go_simp <;> with_reducible rfl)
      try simp only [Act.put, List.setIfInBounds_toArray, List.set_cons_zero, List.set_cons_succ]
      refine wpAnyH_take (i := 8) (oi := { dst := some 71, op := Op.binOp BinOp.rem 3 (Operand.tmp 69) (Operand.tmp 70) 3, type := 3, pos := "law.go:37", after := #[{ on := 6, ground := Ground.data }, { on := 7, ground := Ground.data }], guard := none }) (v := ?_) rfl (by kernel_rfl) (by kernel_rfl) (by kernel_rfl) (fun _ _ _ h => h) (Or.inl ⟨by rfl, ?_⟩) (by assumption) ?_
      rotate_left
      focus (intro w hSw; (try dsimp only at hSw); go_simp <;> with_reducible rfl)
      try simp only [Act.put, List.setIfInBounds_toArray, List.set_cons_zero, List.set_cons_succ]
      refine wpAnyH_take (i := 9) (oi := { dst := some 72, op := Op.move (Operand.tmp 1), type := 23, pos := "law.go:37", after := #[], guard := none }) (v := ?_) rfl (by kernel_rfl) (by kernel_rfl) (by kernel_rfl) (fun _ _ _ h => h) (Or.inl ⟨by rfl, ?_⟩) (by assumption) ?_
      rotate_left
      focus (intro w hSw; (try dsimp only at hSw); go_simp <;> with_reducible rfl)
      try simp only [Act.put, List.setIfInBounds_toArray, List.set_cons_zero, List.set_cons_succ]
      refine wpAnyH_take (i := 10) (oi := { dst := some 73, op := Op.move (Operand.tmp 16), type := 3, pos := "law.go:37", after := #[], guard := none }) (v := ?_) rfl (by kernel_rfl) (by kernel_rfl) (by kernel_rfl) (fun _ _ _ h => h) (Or.inl ⟨by rfl, ?_⟩) (by assumption) ?_
      rotate_left
      focus (intro w hSw; (try dsimp only at hSw); go_simp <;> with_reducible rfl)
      try simp only [Act.put, List.setIfInBounds_toArray, List.set_cons_zero, List.set_cons_succ]
      refine wpAnyH_take (i := 11) (oi := { dst := some 74, op := Op.indexAddr 23 (Operand.tmp 72) (Operand.tmp 73), type := 0, pos := "law.go:37", after := #[{ on := 9, ground := Ground.data }, { on := 10, ground := Ground.data }], guard := none }) (v := ?_) rfl (by kernel_rfl) (by kernel_rfl) (by kernel_rfl) (fun _ _ _ h => h) (Or.inl ⟨by rfl, ?_⟩) (by assumption) ?_
      rotate_left
      focus (intro w hSw; (try dsimp only at hSw); go_simp <;> with_reducible rfl)
      try simp only [Act.put, List.setIfInBounds_toArray, List.set_cons_zero, List.set_cons_succ]
      refine wpAnyH_take (i := 12) (oi := { dst := some 75, op := Op.fieldAddr 32 (Operand.tmp 74) 1, type := 0, pos := "law.go:37", after := #[{ on := 11, ground := Ground.data }], guard := none }) (v := ?_) rfl (by kernel_rfl) (by kernel_rfl) (by kernel_rfl) (fun _ _ _ h => h) (Or.inl ⟨by rfl, ?_⟩) (by assumption) ?_
      rotate_left
      focus (intro w hSw; (try dsimp only at hSw); go_simp <;> with_reducible rfl)
      try simp only [Act.put, List.setIfInBounds_toArray, List.set_cons_zero, List.set_cons_succ]
      refine wpAnyH_take (i := 13) (oi := { dst := some 76, op := Op.load 5 (Operand.tmp 75), type := 5, pos := "law.go:37", after := #[{ on := 12, ground := Ground.data }], guard := none }) (v := ?_) rfl (by kernel_rfl) (by kernel_rfl) (by kernel_rfl) (fun _ _ _ h => h) (Or.inl ⟨by rfl, ?_⟩) (by assumption) ?_
      rotate_left
      focus (intro w hSw; (try dsimp only at hSw); go_simp <;> with_reducible rfl)
      try simp only [Act.put, List.setIfInBounds_toArray, List.set_cons_zero, List.set_cons_succ]
      refine wpAnyH_take (i := 14) (oi := { dst := some 77, op := Op.binOp BinOp.rem 5 (Operand.tmp 76) (Operand.const (Value.int IntKind.u8 2)) 5, type := 5, pos := "law.go:37", after := #[{ on := 13, ground := Ground.data }], guard := none }) (v := ?_) rfl (by kernel_rfl) (by kernel_rfl) (by kernel_rfl) (fun _ _ _ h => h) (Or.inl ⟨by rfl, ?_⟩) (by assumption) ?_
      rotate_left
      focus (intro w hSw; (try dsimp only at hSw); go_simp <;> with_reducible rfl)
      try simp only [Act.put, List.setIfInBounds_toArray, List.set_cons_zero, List.set_cons_succ]
      refine wpAnyH_take (i := 15) (oi := { dst := some 78, op := Op.convert 5 3 (Operand.tmp 77), type := 3, pos := "law.go:37", after := #[{ on := 14, ground := Ground.data }], guard := none }) (v := ?_) rfl (by kernel_rfl) (by kernel_rfl) (by kernel_rfl) (fun _ _ _ h => h) (Or.inl ⟨by rfl, ?_⟩) (by assumption) ?_
      rotate_left
      focus (intro w hSw; (try dsimp only at hSw); go_simp <;> with_reducible rfl)
      try simp only [Act.put, List.setIfInBounds_toArray, List.set_cons_zero, List.set_cons_succ]
      refine wpAnyH_take (i := 16) (oi := { dst := some 79, op := Op.binOp BinOp.add 3 (Operand.const (Value.int IntKind.i64 1)) (Operand.tmp 78) 3, type := 3, pos := "law.go:37", after := #[{ on := 15, ground := Ground.data }], guard := none }) (v := ?_) rfl (by kernel_rfl) (by kernel_rfl) (by kernel_rfl) (fun _ _ _ h => h) (Or.inl ⟨by rfl, ?_⟩) (by assumption) ?_
      rotate_left
      focus (intro w hSw; (try dsimp only at hSw); go_simp <;> with_reducible rfl)
      try simp only [Act.put, List.setIfInBounds_toArray, List.set_cons_zero, List.set_cons_succ]
      refine wpAnyH_ready (rs := [17]) (by kernel_rfl) (by simp) ?_
      refine AllReadyH.cons (o := { dst := some 80, op := Op.call { callee := Callee.value (Operand.func 9), args := #[Operand.tmp 63, Operand.tmp 71, Operand.tmp 79], argTypes := #[26, 3, 3] }, type := 4, pos := "law.go:37", after := #[{ on := 0, ground := Ground.data }, { on := 8, ground := Ground.data }, { on := 16, ground := Ground.data }], guard := none }) rfl (fun K hK => ?_) AllReadyH.nil
      go_simp
      refine (mmark_any (HR.out.1.marks.keep ((Keep.refl [] wo).drew) (by simp) (by simp) (by simp)) ff (1 + qk)).mono ?_
      rintro e y2 ⟨rfl, hM2, hK2⟩
      have hn := HR.out.1.order
      have hnB := HB.out
      have hlv := hlw.out
      have d0 := hK2.cell hHeld.1 (by simp; omega)
      have d1 := hK2.cell hHeld.2 (by simp; omega)
      have hd : Keep [m1, m2] wo y2 := (Keep.refl [m1, m2] wo).drew.trans hK2
      have HS : Hid (MarksAt y2 b m1 m2 n (mark1 n ff (1 + qk) s1) (mark2 n ff (1 + qk) s2) ∧ RamAt y2 r fb g (List.range n) L ∧ RefN y2 q n L ∧ RMarks y2 c t n s1 s2 ∧ Keep [] w y2 ∧ (y2.heap[wbx]? = some (.cells #[.slice (some ⟨q, 0, none⟩) (64 * n) (64 * n)] 50 (0, 0)) ∧ y2.heap[xbx]? = some (.cells #[.slice (some ⟨c, 0, none⟩) n n, .slice (some ⟨t, 0, none⟩) n n] 53 (0, 0)) ∧ y2.heap[sz + 1]? = some (.cells #[.slice none 0 0] 50 (0, 0)) ∧ y2.heap[sz + 1 + 1]? = some (.cells #[.slice none 0 0, .slice none 0 0] 53 (0, 0)))) := Lib.hid (by
        refine ⟨hM2, HR.out.1.ram.keep hd (by simp; omega) (by simp; omega) (by simp; omega), ⟨HR.out.1.ref.ref.keep hd (by intro b hb; cases hb; simp; omega), HR.out.1.ref.len⟩, HR.out.1.rm.keep hd (by simp; omega) (by simp; omega), HR.out.1.keep.then hd (by simp; omega), hd.heap HR.out.2.1 (by simp; omega), hd.heap HR.out.2.2.1 (by simp; omega), hd.heap HR.out.2.2.2.1 (by simp; omega), hd.heap HR.out.2.2.2.2 (by simp; omega)⟩)
      go_wp2_with fail
      refine shut_grow (fun x => x = y2) hK (fun _ h => by rw [h]; exact ⟨d0, d1⟩) rfl (fun hHeld => ?_)
      clear hK K hM2 hK2 hn hd
      refine wpAnyH_done (by kernel_rfl) ?_ _
      clear hHeld
      have c0 := d0
      have c1 := d1
      have x0 : y2.cell? ⟨xbx, 0, none⟩ = some (.slice (some ⟨c, 0, none⟩) n n) := cell_of HS.out.2.2.2.2.2.2.1 0 rfl
      have x1 : y2.cell? ⟨xbx, 1, none⟩ = some (.slice (some ⟨t, 0, none⟩) n n) := cell_of HS.out.2.2.2.2.2.2.1 1 rfl
      clear d0 d1
      go_wp2_with fail
      refine wp_region_held_drew (S := fun x => x.cell? ⟨lb, off + k * 2, none⟩ = some (.int .u8 fr') ∧ x.cell? ⟨lb, off + k * 2 + 1, none⟩ = some (.int .u8 kd) ∧ x.cell? ⟨xbx, 0, none⟩ = some (.slice (some ⟨c, 0, none⟩) n n) ∧ x.cell? ⟨xbx, 1, none⟩ = some (.slice (some ⟨t, 0, none⟩) n n)) (by kernel_rfl) ⟨c0, c1, x0, x1⟩ (fun hHeld => ?_)
      skip
      refine wpAnyH_take (i := 0) (oi := { dst := some 81, op := Op.load 53 (Operand.tmp 11), type := 53, pos := "law.go:38", after := #[], guard := none }) (v := ?_) rfl (by kernel_rfl) (by kernel_rfl) (by kernel_rfl) (fun _ _ _ h => h) (Or.inl ⟨by rfl, ?_⟩) (by assumption) ?_
      rotate_left
      focus (intro w hSw; (try dsimp only at hSw); go_simp <;> with_reducible rfl)
      try simp only [Act.put, List.setIfInBounds_toArray, List.set_cons_zero, List.set_cons_succ]
      refine wpAnyH_take (i := 1) (oi := { dst := some 82, op := Op.move (Operand.tmp 1), type := 23, pos := "law.go:38", after := #[], guard := none }) (v := ?_) rfl (by kernel_rfl) (by kernel_rfl) (by kernel_rfl) (fun _ _ _ h => h) (Or.inl ⟨by rfl, ?_⟩) (by assumption) ?_
      rotate_left
      focus (intro w hSw; (try dsimp only at hSw); go_simp <;> with_reducible rfl)
      try simp only [Act.put, List.setIfInBounds_toArray, List.set_cons_zero, List.set_cons_succ]
      refine wpAnyH_take (i := 2) (oi := { dst := some 83, op := Op.move (Operand.tmp 16), type := 3, pos := "law.go:38", after := #[], guard := none }) (v := ?_) rfl (by kernel_rfl) (by kernel_rfl) (by kernel_rfl) (fun _ _ _ h => h) (Or.inl ⟨by rfl, ?_⟩) (by assumption) ?_
      rotate_left
      focus (intro w hSw; (try dsimp only at hSw); go_simp <;> with_reducible rfl)
      try simp only [Act.put, List.setIfInBounds_toArray, List.set_cons_zero, List.set_cons_succ]
      refine wpAnyH_take (i := 3) (oi := { dst := some 84, op := Op.indexAddr 23 (Operand.tmp 82) (Operand.tmp 83), type := 0, pos := "law.go:38", after := #[{ on := 1, ground := Ground.data }, { on := 2, ground := Ground.data }], guard := none }) (v := ?_) rfl (by kernel_rfl) (by kernel_rfl) (by kernel_rfl) (fun _ _ _ h => h) (Or.inl ⟨by rfl, ?_⟩) (by assumption) ?_
      rotate_left
      focus (intro w hSw; (try dsimp only at hSw); go_simp <;> with_reducible rfl)
      try simp only [Act.put, List.setIfInBounds_toArray, List.set_cons_zero, List.set_cons_succ]
      refine wpAnyH_take (i := 4) (oi := { dst := some 85, op := Op.fieldAddr 32 (Operand.tmp 84) 0, type := 0, pos := "law.go:38", after := #[{ on := 3, ground := Ground.data }], guard := none }) (v := ?_) rfl (by kernel_rfl) (by kernel_rfl) (by kernel_rfl) (fun _ _ _ h => h) (Or.inl ⟨by rfl, ?_⟩) (by assumption) ?_
      rotate_left
      focus (intro w hSw; (try dsimp only at hSw); go_simp <;> with_reducible rfl)
      try simp only [Act.put, List.setIfInBounds_toArray, List.set_cons_zero, List.set_cons_succ]
      refine wpAnyH_take (i := 5) (oi := { dst := some 86, op := Op.load 5 (Operand.tmp 85), type := 5, pos := "law.go:38", after := #[{ on := 4, ground := Ground.data }], guard := none }) (v := ?_) rfl (by kernel_rfl) (by kernel_rfl) (by kernel_rfl) (fun _ _ _ h => h) (Or.inl ⟨by rfl, ?_⟩) (by assumption) ?_
      rotate_left
      focus (intro w hSw; (try dsimp only at hSw); go_simp <;> with_reducible rfl)
      try simp only [Act.put, List.setIfInBounds_toArray, List.set_cons_zero, List.set_cons_succ]
      refine wpAnyH_take (i := 6) (oi := { dst := some 87, op := Op.convert 5 3 (Operand.tmp 86), type := 3, pos := "law.go:38", after := #[{ on := 5, ground := Ground.data }], guard := none }) (v := ?_) rfl (by kernel_rfl) (by kernel_rfl) (by kernel_rfl) (fun _ _ _ h => h) (Or.inl ⟨by rfl, ?_⟩) (by assumption) ?_
      rotate_left
      focus (intro w hSw; (try dsimp only at hSw); go_simp <;> with_reducible rfl)
      try simp only [Act.put, List.setIfInBounds_toArray, List.set_cons_zero, List.set_cons_succ]
      refine wpAnyH_take (i := 7) (oi := { dst := some 88, op := Op.move (Operand.tmp 9), type := 3, pos := "law.go:38", after := #[], guard := none }) (v := ?_) rfl (by kernel_rfl) (by kernel_rfl) (by kernel_rfl) (fun _ _ _ h => h) (Or.inl ⟨by rfl, ?_⟩) (by assumption) ?_
      rotate_left
      focus (intro w hSw; (try dsimp only at hSw); go_simp <;> with_reducible rfl)
      try simp only [Act.put, List.setIfInBounds_toArray, List.set_cons_zero, List.set_cons_succ]
      refine wpAnyH_take (i := 8) (oi := { dst := some 89, op := Op.binOp BinOp.rem 3 (Operand.tmp 87) (Operand.tmp 88) 3, type := 3, pos := "law.go:38", after := #[{ on := 6, ground := Ground.data }, { on := 7, ground := Ground.data }], guard := none }) (v := ?_) rfl (by kernel_rfl) (by kernel_rfl) (by kernel_rfl) (fun _ _ _ h => h) (Or.inl ⟨by rfl, ?_⟩) (by assumption) ?_
      rotate_left
      focus (intro w hSw; (try dsimp only at hSw); go_simp <;> with_reducible rfl)
      try simp only [Act.put, List.setIfInBounds_toArray, List.set_cons_zero, List.set_cons_succ]
      refine wpAnyH_take (i := 9) (oi := { dst := some 90, op := Op.move (Operand.tmp 1), type := 23, pos := "law.go:38", after := #[], guard := none }) (v := ?_) rfl (by kernel_rfl) (by kernel_rfl) (by kernel_rfl) (fun _ _ _ h => h) (Or.inl ⟨by rfl, ?_⟩) (by assumption) ?_
      rotate_left
      focus (intro w hSw; (try dsimp only at hSw); go_simp <;> with_reducible rfl)
      try simp only [Act.put, List.setIfInBounds_toArray, List.set_cons_zero, List.set_cons_succ]
      refine wpAnyH_take (i := 10) (oi := { dst := some 91, op := Op.move (Operand.tmp 16), type := 3, pos := "law.go:38", after := #[], guard := none }) (v := ?_) rfl (by kernel_rfl) (by kernel_rfl) (by kernel_rfl) (fun _ _ _ h => h) (Or.inl ⟨by rfl, ?_⟩) (by assumption) ?_
      rotate_left
      focus (intro w hSw; (try dsimp only at hSw); go_simp <;> with_reducible rfl)
      try simp only [Act.put, List.setIfInBounds_toArray, List.set_cons_zero, List.set_cons_succ]
      refine wpAnyH_take (i := 11) (oi := { dst := some 92, op := Op.indexAddr 23 (Operand.tmp 90) (Operand.tmp 91), type := 0, pos := "law.go:38", after := #[{ on := 9, ground := Ground.data }, { on := 10, ground := Ground.data }], guard := none }) (v := ?_) rfl (by kernel_rfl) (by kernel_rfl) (by kernel_rfl) (fun _ _ _ h => h) (Or.inl ⟨by rfl, ?_⟩) (by assumption) ?_
      rotate_left
      focus (intro w hSw; (try dsimp only at hSw); go_simp <;> with_reducible rfl)
      try simp only [Act.put, List.setIfInBounds_toArray, List.set_cons_zero, List.set_cons_succ]
      refine wpAnyH_take (i := 12) (oi := { dst := some 93, op := Op.fieldAddr 32 (Operand.tmp 92) 1, type := 0, pos := "law.go:38", after := #[{ on := 11, ground := Ground.data }], guard := none }) (v := ?_) rfl (by kernel_rfl) (by kernel_rfl) (by kernel_rfl) (fun _ _ _ h => h) (Or.inl ⟨by rfl, ?_⟩) (by assumption) ?_
      rotate_left
      focus (intro w hSw; (try dsimp only at hSw); go_simp <;> with_reducible rfl)
      try simp only [Act.put, List.setIfInBounds_toArray, List.set_cons_zero, List.set_cons_succ]
      refine wpAnyH_take (i := 13) (oi := { dst := some 94, op := Op.load 5 (Operand.tmp 93), type := 5, pos := "law.go:38", after := #[{ on := 12, ground := Ground.data }], guard := none }) (v := ?_) rfl (by kernel_rfl) (by kernel_rfl) (by kernel_rfl) (fun _ _ _ h => h) (Or.inl ⟨by rfl, ?_⟩) (by assumption) ?_
      rotate_left
      focus (intro w hSw; (try dsimp only at hSw); go_simp <;> with_reducible rfl)
      try simp only [Act.put, List.setIfInBounds_toArray, List.set_cons_zero, List.set_cons_succ]
      refine wpAnyH_take (i := 14) (oi := { dst := some 95, op := Op.binOp BinOp.rem 5 (Operand.tmp 94) (Operand.const (Value.int IntKind.u8 2)) 5, type := 5, pos := "law.go:38", after := #[{ on := 13, ground := Ground.data }], guard := none }) (v := ?_) rfl (by kernel_rfl) (by kernel_rfl) (by kernel_rfl) (fun _ _ _ h => h) (Or.inl ⟨by rfl, ?_⟩) (by assumption) ?_
      rotate_left
      focus (intro w hSw; (try dsimp only at hSw); go_simp <;> with_reducible rfl)
      try simp only [Act.put, List.setIfInBounds_toArray, List.set_cons_zero, List.set_cons_succ]
      refine wpAnyH_take (i := 15) (oi := { dst := some 96, op := Op.convert 5 3 (Operand.tmp 95), type := 3, pos := "law.go:38", after := #[{ on := 14, ground := Ground.data }], guard := none }) (v := ?_) rfl (by kernel_rfl) (by kernel_rfl) (by kernel_rfl) (fun _ _ _ h => h) (Or.inl ⟨by rfl, ?_⟩) (by assumption) ?_
      rotate_left
      focus (intro w hSw; (try dsimp only at hSw); go_simp <;> with_reducible rfl)
      try simp only [Act.put, List.setIfInBounds_toArray, List.set_cons_zero, List.set_cons_succ]
      refine wpAnyH_take (i := 16) (oi := { dst := some 97, op := Op.binOp BinOp.add 3 (Operand.const (Value.int IntKind.i64 1)) (Operand.tmp 96) 3, type := 3, pos := "law.go:38", after := #[{ on := 15, ground := Ground.data }], guard := none }) (v := ?_) rfl (by kernel_rfl) (by kernel_rfl) (by kernel_rfl) (fun _ _ _ h => h) (Or.inl ⟨by rfl, ?_⟩) (by assumption) ?_
      rotate_left
      focus (intro w hSw; (try dsimp only at hSw); go_simp <;> with_reducible rfl)
      try simp only [Act.put, List.setIfInBounds_toArray, List.set_cons_zero, List.set_cons_succ]
      refine wpAnyH_ready (rs := [17]) (by kernel_rfl) (by simp) ?_
      refine AllReadyH.cons (o := { dst := some 98, op := Op.call { callee := Callee.value (Operand.func 28), args := #[Operand.tmp 81, Operand.tmp 89, Operand.tmp 97, Operand.const (Value.bool true)], argTypes := #[53, 3, 3, 4] }, type := 4, pos := "law.go:38", after := #[{ on := 0, ground := Ground.data }, { on := 8, ground := Ground.data }, { on := 16, ground := Ground.data }], guard := none }) rfl (fun K hK => ?_) AllReadyH.nil
      go_simp
      refine (rset_at (HS.out.2.2.2.1.keep ((Keep.refl [] y2).drew) (by simp) (by simp)) ff (1 + qk) true).mono ?_
      rintro e y3 ⟨rfl, hM3, hK3⟩
      have hn := HR.out.1.order
      have hnB := HB.out
      have hd : Keep [c, t] y2 y3 := (Keep.refl [c, t] y2).drew.trans hK3
      have d0 := hK3.cell hHeld.1 (by simp; omega)
      have d1 := hK3.cell hHeld.2.1 (by simp; omega)
      have d2 := hK3.cell hHeld.2.2.1 (by simp; omega)
      have d3 := hK3.cell hHeld.2.2.2 (by simp; omega)
      have HT : Hid (MadeAt w y3 r fb g b m1 m2 q c t n L (mark1 n ff (1 + qk) s1) (mark2 n ff (1 + qk) s2) ∧ y3.heap[wbx]? = some (.cells #[.slice (some ⟨q, 0, none⟩) (64 * n) (64 * n)] 50 (0, 0)) ∧ y3.heap[xbx]? = some (.cells #[.slice (some ⟨c, 0, none⟩) n n, .slice (some ⟨t, 0, none⟩) n n] 53 (0, 0)) ∧ y3.heap[sz + 1]? = some (.cells #[.slice none 0 0] 50 (0, 0)) ∧ y3.heap[sz + 1 + 1]? = some (.cells #[.slice none 0 0, .slice none 0 0] 53 (0, 0))) := Lib.hid (by
        have hS := HS.out
        refine ⟨⟨hS.2.1.keep hd (by simp; omega) (by simp; omega) (by simp; omega), hS.1.keep hd (by simp; omega) (by simp; omega) (by simp; omega), ⟨hS.2.2.1.ref.keep hd (by intro b hb; cases hb; simp; omega), hS.2.2.1.len⟩, hM3, hS.2.2.2.2.1.then hd (by simp; omega), mark1_in HR.out.1.in1, mark2_in HR.out.1.in2, hn⟩, hd.heap hS.2.2.2.2.2.1 (by simp; omega), hd.heap hS.2.2.2.2.2.2.1 (by simp; omega), hd.heap hS.2.2.2.2.2.2.2.1 (by simp; omega), hd.heap hS.2.2.2.2.2.2.2.2 (by simp; omega)⟩)
      go_wp2_with fail
      refine shut_grow (fun x => x = y3) hK (fun _ h => by rw [h]; exact ⟨d0, d1, d2, d3⟩) rfl (fun hHeld => ?_)
      clear hK K hM3 hK3 hn hd
      refine wpAnyH_done (by kernel_rfl) ?_ _
      clear hHeld t1 t2 t3 t4 t5 t6
      go_wp2_with fail
      go_roundw
      case rel => exact ⟨k + 1, _, _, by go_num, by omega, by omega, HT⟩
      case measure => simp [intOf]; omega
    · have x0 : wo.cell? ⟨xbx, 0, none⟩ = some (.slice (some ⟨c, 0, none⟩) n n) := cell_of HR.out.2.2.1 0 rfl
      have x1 : wo.cell? ⟨xbx, 1, none⟩ = some (.slice (some ⟨t, 0, none⟩) n n) := cell_of HR.out.2.2.1 1 rfl
      have v0 : wo.cell? ⟨wbx, 0, none⟩ = some (.slice (some ⟨q, 0, none⟩) (64 * n) (64 * n)) := cell_of HR.out.2.1 0 rfl
      have r0 : wo.cell? ⟨sz + 1, 0, none⟩ = some (.slice none 0 0) := cell_of HR.out.2.2.2.1 0 rfl
      have r1 : wo.cell? ⟨sz + 1 + 1, 0, none⟩ = some (.slice none 0 0) := cell_of HR.out.2.2.2.2 0 rfl
      have r2 : wo.cell? ⟨sz + 1 + 1, 1, none⟩ = some (.slice none 0 0) := cell_of HR.out.2.2.2.2 1 rfl
      have z0 : wo.frozen? ⟨sz + 1, 0, none⟩ = false := frozen_of HR.out.2.2.2.1 0
      have z1 : wo.frozen? ⟨sz + 1 + 1, 0, none⟩ = false := frozen_of HR.out.2.2.2.2 0
      have z2 : wo.frozen? ⟨sz + 1 + 1, 1, none⟩ = false := frozen_of HR.out.2.2.2.2 1
      have hex : ¬ ((k : Int) < (mlen : Int)) ∨ (k : Int) < (mlen : Int) ∧ ¬ ((k : Int) < 40) := by omega
      clear hlt hk1 hk2
      have HY : Hid (((fun x : World => x.cell? ⟨xbx, 0, none⟩ = some (.slice (some ⟨c, 0, none⟩) n n) ∧ x.cell? ⟨xbx, 1, none⟩ = some (.slice (some ⟨t, 0, none⟩) n n) ∧ x.cell? ⟨wbx, 0, none⟩ = some (.slice (some ⟨q, 0, none⟩) (64 * n) (64 * n))) ((wo.setCell ⟨sz + 1, 0, none⟩ (.slice (some ⟨q, 0, none⟩) (64 * n) (64 * n))).drew) ∧ (fun x : World => x.cell? ⟨xbx, 0, none⟩ = some (.slice (some ⟨c, 0, none⟩) n n) ∧ x.cell? ⟨xbx, 1, none⟩ = some (.slice (some ⟨t, 0, none⟩) n n) ∧ x.cell? ⟨wbx, 0, none⟩ = some (.slice (some ⟨q, 0, none⟩) (64 * n) (64 * n))) ((((wo.setCell ⟨sz + 1, 0, none⟩ (.slice (some ⟨q, 0, none⟩) (64 * n) (64 * n))).setCell ⟨sz + 1 + 1, 0, none⟩ (.slice (some ⟨c, 0, none⟩) n n)).setCell ⟨sz + 1 + 1, 1, none⟩ (.slice (some ⟨t, 0, none⟩) n n)).drew)) ∧ MadeAt w (((wo.setCell ⟨sz + 1, 0, none⟩ (.slice (some ⟨q, 0, none⟩) (64 * n) (64 * n))).setCell ⟨sz + 1 + 1, 0, none⟩ (.slice (some ⟨c, 0, none⟩) n n)).setCell ⟨sz + 1 + 1, 1, none⟩ (.slice (some ⟨t, 0, none⟩) n n)).drew r fb g b m1 m2 q c t n L s1 s2) := Lib.hid (by
        have hnB := HB.out
        have hn := HR.out.1.order
        have k1 : Keep [sz + 1] wo (wo.setCell ⟨sz + 1, 0, none⟩ (.slice (some ⟨q, 0, none⟩) (64 * n) (64 * n))).drew := ((Keep.refl [sz + 1] wo).setCell (.inl (by simp)) _).drew
        have k2 : Keep [sz + 1, sz + 1 + 1] wo (((wo.setCell ⟨sz + 1, 0, none⟩ (.slice (some ⟨q, 0, none⟩) (64 * n) (64 * n))).setCell ⟨sz + 1 + 1, 0, none⟩ (.slice (some ⟨c, 0, none⟩) n n)).setCell ⟨sz + 1 + 1, 1, none⟩ (.slice (some ⟨t, 0, none⟩) n n)).drew := ((((Keep.refl [sz + 1, sz + 1 + 1] wo).setCell (.inl (by simp)) _).setCell (.inl (by simp)) _).setCell (.inl (by simp)) _).drew
        have hR := HR.out.1
        refine ⟨⟨⟨k1.cell x0 (by simp; omega), k1.cell x1 (by simp; omega), k1.cell v0 (by simp; omega)⟩, ⟨k2.cell x0 (by simp; omega), k2.cell x1 (by simp; omega), k2.cell v0 (by simp; omega)⟩⟩, ⟨hR.ram.keep k2 (by simp; omega) (by simp; omega) (by simp; omega), hR.marks.keep k2 (by simp; omega) (by simp; omega) (by simp; omega), ⟨hR.ref.ref.keep k2 (by intro b hb; cases hb; simp; omega), hR.ref.len⟩, hR.rm.keep k2 (by simp; omega) (by simp; omega), hR.keep.then k2 (by simp; omega), hR.in1, hR.in2, hn⟩⟩)
      rcases hex with h1 | ⟨h1, h1'⟩
      · go_wp2_with fail
        refine wp_region_held_drew (S := fun x => x.cell? ⟨xbx, 0, none⟩ = some (.slice (some ⟨c, 0, none⟩) n n) ∧ x.cell? ⟨xbx, 1, none⟩ = some (.slice (some ⟨t, 0, none⟩) n n) ∧ x.cell? ⟨wbx, 0, none⟩ = some (.slice (some ⟨q, 0, none⟩) (64 * n) (64 * n))) (by kernel_rfl) ⟨x0, x1, v0⟩ (fun hHeld => ?_)
        skip
        refine wpAnyH_take (i := 0) (oi := { dst := some 99, op := Op.move (Operand.tmp 12), type := 48, pos := "law.go:40", after := #[], guard := none }) (v := ?_) rfl (by kernel_rfl) (by kernel_rfl) (by kernel_rfl) (fun _ _ _ h => h) (Or.inl ⟨by rfl, ?_⟩) (by assumption) ?_
        rotate_left
        focus (intro w hSw; (try dsimp only at hSw); go_simp <;> with_reducible rfl)
        try simp only [Act.put, List.setIfInBounds_toArray, List.set_cons_zero, List.set_cons_succ]
        refine wpAnyH_take (i := 1) (oi := { dst := some 100, op := Op.move (Operand.tmp 14), type := 26, pos := "law.go:40", after := #[{ on := 4, ground := Ground.gcOnly Departure.lateStores }], guard := none }) (v := ?_) rfl (by kernel_rfl) (by kernel_rfl) (by kernel_rfl) (fun _ _ _ h => h) (Or.inl ⟨by rfl, ?_⟩) (by assumption) ?_
        rotate_left
        focus (intro w hSw; (try dsimp only at hSw); go_simp <;> with_reducible rfl)
        try simp only [Act.put, List.setIfInBounds_toArray, List.set_cons_zero, List.set_cons_succ]
        refine wpAnyH_take (i := 2) (oi := { dst := some 101, op := Op.load 50 (Operand.tmp 10), type := 50, pos := "law.go:40", after := #[{ on := 5, ground := Ground.gcOnly Departure.lateStores }], guard := none }) (v := ?_) rfl (by kernel_rfl) (by kernel_rfl) (by kernel_rfl) (fun _ _ _ h => h) (Or.inl ⟨by rfl, ?_⟩) (by assumption) ?_
        rotate_left
        focus (intro w hSw; (try dsimp only at hSw); go_simp <;> with_reducible rfl)
        try simp only [Act.put, List.setIfInBounds_toArray, List.set_cons_zero, List.set_cons_succ]
        refine wpAnyH_take (i := 3) (oi := { dst := some 102, op := Op.load 53 (Operand.tmp 11), type := 53, pos := "law.go:40", after := #[{ on := 6, ground := Ground.gcOnly Departure.lateStores }], guard := none }) (v := ?_) rfl (by kernel_rfl) (by kernel_rfl) (by kernel_rfl) (fun _ _ _ h => h) (Or.inl ⟨by rfl, ?_⟩) (by assumption) ?_
        rotate_left
        focus (intro w hSw; (try dsimp only at hSw); go_simp <;> with_reducible rfl)
        try simp only [Act.put, List.setIfInBounds_toArray, List.set_cons_zero, List.set_cons_succ]
        refine wpAnyH_take (i := 4) (oi := { dst := some 4, op := Op.assign (Operand.tmp 99), type := 48, pos := "law.go:40", after := #[{ on := 0, ground := Ground.data }, { on := 0, ground := Ground.phase }, { on := 1, ground := Ground.textOnly Departure.lateStores }, { on := 2, ground := Ground.textOnly Departure.lateStores }, { on := 3, ground := Ground.textOnly Departure.lateStores }], guard := none }) (v := ?_) rfl (by kernel_rfl) (by kernel_rfl) (by kernel_rfl) (fun _ _ _ h => h) (Or.inl ⟨by rfl, ?_⟩) (by assumption) ?_
        rotate_left
        focus (intro w hSw; (try dsimp only at hSw); go_simp <;> with_reducible rfl)
        try simp only [Act.put, List.setIfInBounds_toArray, List.set_cons_zero, List.set_cons_succ]
        refine wpAnyH_take (i := 5) (oi := { dst := some 5, op := Op.assign (Operand.tmp 100), type := 26, pos := "law.go:40", after := #[{ on := 1, ground := Ground.data }, { on := 4, ground := Ground.chain }, { on := 0, ground := Ground.phase }, { on := 1, ground := Ground.phase }, { on := 2, ground := Ground.textOnly Departure.lateStores }, { on := 3, ground := Ground.textOnly Departure.lateStores }, { on := 4, ground := Ground.phase }], guard := none }) (v := ?_) rfl (by kernel_rfl) (by kernel_rfl) (by kernel_rfl) (fun _ _ _ h => h) (Or.inl ⟨by rfl, ?_⟩) (by assumption) ?_
        rotate_left
        focus (intro w hSw; (try dsimp only at hSw); go_simp <;> with_reducible rfl)
        try simp only [Act.put, List.setIfInBounds_toArray, List.set_cons_zero, List.set_cons_succ]
        refine wpAnyH_ready (rs := [6]) (by kernel_rfl) (by simp) ?_
        refine AllReadyH.cons (o := { dst := none, op := Op.store 50 (Operand.tmp 6) (Operand.tmp 101), type := 0, pos := "law.go:40", after := #[{ on := 2, ground := Ground.data }, { on := 5, ground := Ground.chain }, { on := 0, ground := Ground.phase }, { on := 1, ground := Ground.phase }, { on := 2, ground := Ground.phase }, { on := 3, ground := Ground.textOnly Departure.lateStores }, { on := 4, ground := Ground.phase }, { on := 5, ground := Ground.phase }], guard := none }) rfl (fun K hK => ?_) AllReadyH.nil
        go_simp
        refine shut_grow (fun x => x.cell? ⟨xbx, 0, none⟩ = some (.slice (some ⟨c, 0, none⟩) n n) ∧ x.cell? ⟨xbx, 1, none⟩ = some (.slice (some ⟨t, 0, none⟩) n n) ∧ x.cell? ⟨wbx, 0, none⟩ = some (.slice (some ⟨q, 0, none⟩) (64 * n) (64 * n))) hK (fun _ h => h) HY.out.1.1 (fun hHeld => ?_)
        clear hK K
        refine wpAnyH_ready (rs := [7]) (by kernel_rfl) (by simp) ?_
        refine AllReadyH.cons (o := { dst := none, op := Op.store 53 (Operand.tmp 7) (Operand.tmp 102), type := 0, pos := "law.go:40", after := #[{ on := 3, ground := Ground.data }, { on := 6, ground := Ground.chain }, { on := 0, ground := Ground.phase }, { on := 1, ground := Ground.phase }, { on := 2, ground := Ground.phase }, { on := 3, ground := Ground.phase }, { on := 4, ground := Ground.phase }, { on := 5, ground := Ground.phase }, { on := 6, ground := Ground.phase }], guard := none }) rfl (fun K hK => ?_) AllReadyH.nil
        go_simp
        refine shut_grow (fun x => x = (((wo.setCell ⟨sz + 1, 0, none⟩ (.slice (some ⟨q, 0, none⟩) (64 * n) (64 * n))).setCell ⟨sz + 1 + 1, 0, none⟩ (.slice (some ⟨c, 0, none⟩) n n)).setCell ⟨sz + 1 + 1, 1, none⟩ (.slice (some ⟨t, 0, none⟩) n n)).drew) hK (fun _ h => by rw [h]; exact HY.out.1.2) rfl (fun hHeld => ?_)
        clear hK K
        refine wpAnyH_done (by kernel_rfl) ?_ _
        go_wp2_with fail
        exact bodyPost_ret (v := .tuple #[.pointer (some ⟨r, 0, none⟩), .pointer (some ⟨b, 0, none⟩), .agg #[.slice (some ⟨q, 0, none⟩) (64 * n) (64 * n)], rval c t n]) (by simp [results, Try.results12, go_sem, rval, r0, r1, r2]) rfl ⟨n, r, fb, g, b, m1, m2, q, c, t, L, s1, s2, rfl, hn1, hn2, HY.out.2⟩
      · go_wp2_with fail
        refine wp_region_held_drew (S := fun x => x.cell? ⟨xbx, 0, none⟩ = some (.slice (some ⟨c, 0, none⟩) n n) ∧ x.cell? ⟨xbx, 1, none⟩ = some (.slice (some ⟨t, 0, none⟩) n n) ∧ x.cell? ⟨wbx, 0, none⟩ = some (.slice (some ⟨q, 0, none⟩) (64 * n) (64 * n))) (by kernel_rfl) ⟨x0, x1, v0⟩ (fun hHeld => ?_)
        skip
        refine wpAnyH_take (i := 0) (oi := { dst := some 99, op := Op.move (Operand.tmp 12), type := 48, pos := "law.go:40", after := #[], guard := none }) (v := ?_) rfl (by kernel_rfl) (by kernel_rfl) (by kernel_rfl) (fun _ _ _ h => h) (Or.inl ⟨by rfl, ?_⟩) (by assumption) ?_
        rotate_left
        focus (intro w hSw; (try dsimp only at hSw); go_simp <;> with_reducible rfl)
        try simp only [Act.put, List.setIfInBounds_toArray, List.set_cons_zero, List.set_cons_succ]
        refine wpAnyH_take (i := 1) (oi := { dst := some 100, op := Op.move (Operand.tmp 14), type := 26, pos := "law.go:40", after := #[{ on := 4, ground := Ground.gcOnly Departure.lateStores }], guard := none }) (v := ?_) rfl (by kernel_rfl) (by kernel_rfl) (by kernel_rfl) (fun _ _ _ h => h) (Or.inl ⟨by rfl, ?_⟩) (by assumption) ?_
        rotate_left
        focus (intro w hSw; (try dsimp only at hSw); go_simp <;> with_reducible rfl)
        try simp only [Act.put, List.setIfInBounds_toArray, List.set_cons_zero, List.set_cons_succ]
        refine wpAnyH_take (i := 2) (oi := { dst := some 101, op := Op.load 50 (Operand.tmp 10), type := 50, pos := "law.go:40", after := #[{ on := 5, ground := Ground.gcOnly Departure.lateStores }], guard := none }) (v := ?_) rfl (by kernel_rfl) (by kernel_rfl) (by kernel_rfl) (fun _ _ _ h => h) (Or.inl ⟨by rfl, ?_⟩) (by assumption) ?_
        rotate_left
        focus (intro w hSw; (try dsimp only at hSw); go_simp <;> with_reducible rfl)
        try simp only [Act.put, List.setIfInBounds_toArray, List.set_cons_zero, List.set_cons_succ]
        refine wpAnyH_take (i := 3) (oi := { dst := some 102, op := Op.load 53 (Operand.tmp 11), type := 53, pos := "law.go:40", after := #[{ on := 6, ground := Ground.gcOnly Departure.lateStores }], guard := none }) (v := ?_) rfl (by kernel_rfl) (by kernel_rfl) (by kernel_rfl) (fun _ _ _ h => h) (Or.inl ⟨by rfl, ?_⟩) (by assumption) ?_
        rotate_left
        focus (intro w hSw; (try dsimp only at hSw); go_simp <;> with_reducible rfl)
        try simp only [Act.put, List.setIfInBounds_toArray, List.set_cons_zero, List.set_cons_succ]
        refine wpAnyH_take (i := 4) (oi := { dst := some 4, op := Op.assign (Operand.tmp 99), type := 48, pos := "law.go:40", after := #[{ on := 0, ground := Ground.data }, { on := 0, ground := Ground.phase }, { on := 1, ground := Ground.textOnly Departure.lateStores }, { on := 2, ground := Ground.textOnly Departure.lateStores }, { on := 3, ground := Ground.textOnly Departure.lateStores }], guard := none }) (v := ?_) rfl (by kernel_rfl) (by kernel_rfl) (by kernel_rfl) (fun _ _ _ h => h) (Or.inl ⟨by rfl, ?_⟩) (by assumption) ?_
        rotate_left
        focus (intro w hSw; (try dsimp only at hSw); go_simp <;> with_reducible rfl)
        try simp only [Act.put, List.setIfInBounds_toArray, List.set_cons_zero, List.set_cons_succ]
        refine wpAnyH_take (i := 5) (oi := { dst := some 5, op := Op.assign (Operand.tmp 100), type := 26, pos := "law.go:40", after := #[{ on := 1, ground := Ground.data }, { on := 4, ground := Ground.chain }, { on := 0, ground := Ground.phase }, { on := 1, ground := Ground.phase }, { on := 2, ground := Ground.textOnly Departure.lateStores }, { on := 3, ground := Ground.textOnly Departure.lateStores }, { on := 4, ground := Ground.phase }], guard := none }) (v := ?_) rfl (by kernel_rfl) (by kernel_rfl) (by kernel_rfl) (fun _ _ _ h => h) (Or.inl ⟨by rfl, ?_⟩) (by assumption) ?_
        rotate_left
        focus (intro w hSw; (try dsimp only at hSw); go_simp <;> with_reducible rfl)
        try simp only [Act.put, List.setIfInBounds_toArray, List.set_cons_zero, List.set_cons_succ]
        refine wpAnyH_ready (rs := [6]) (by kernel_rfl) (by simp) ?_
        refine AllReadyH.cons (o := { dst := none, op := Op.store 50 (Operand.tmp 6) (Operand.tmp 101), type := 0, pos := "law.go:40", after := #[{ on := 2, ground := Ground.data }, { on := 5, ground := Ground.chain }, { on := 0, ground := Ground.phase }, { on := 1, ground := Ground.phase }, { on := 2, ground := Ground.phase }, { on := 3, ground := Ground.textOnly Departure.lateStores }, { on := 4, ground := Ground.phase }, { on := 5, ground := Ground.phase }], guard := none }) rfl (fun K hK => ?_) AllReadyH.nil
        go_simp
        refine shut_grow (fun x => x.cell? ⟨xbx, 0, none⟩ = some (.slice (some ⟨c, 0, none⟩) n n) ∧ x.cell? ⟨xbx, 1, none⟩ = some (.slice (some ⟨t, 0, none⟩) n n) ∧ x.cell? ⟨wbx, 0, none⟩ = some (.slice (some ⟨q, 0, none⟩) (64 * n) (64 * n))) hK (fun _ h => h) HY.out.1.1 (fun hHeld => ?_)
        clear hK K
        refine wpAnyH_ready (rs := [7]) (by kernel_rfl) (by simp) ?_
        refine AllReadyH.cons (o := { dst := none, op := Op.store 53 (Operand.tmp 7) (Operand.tmp 102), type := 0, pos := "law.go:40", after := #[{ on := 3, ground := Ground.data }, { on := 6, ground := Ground.chain }, { on := 0, ground := Ground.phase }, { on := 1, ground := Ground.phase }, { on := 2, ground := Ground.phase }, { on := 3, ground := Ground.phase }, { on := 4, ground := Ground.phase }, { on := 5, ground := Ground.phase }, { on := 6, ground := Ground.phase }], guard := none }) rfl (fun K hK => ?_) AllReadyH.nil
        go_simp
        refine shut_grow (fun x => x = (((wo.setCell ⟨sz + 1, 0, none⟩ (.slice (some ⟨q, 0, none⟩) (64 * n) (64 * n))).setCell ⟨sz + 1 + 1, 0, none⟩ (.slice (some ⟨c, 0, none⟩) n n)).setCell ⟨sz + 1 + 1, 1, none⟩ (.slice (some ⟨t, 0, none⟩) n n)).drew) hK (fun _ h => by rw [h]; exact HY.out.1.2) rfl (fun hHeld => ?_)
        clear hK K
        refine wpAnyH_done (by kernel_rfl) ?_ _
        go_wp2_with fail
        exact bodyPost_ret (v := .tuple #[.pointer (some ⟨r, 0, none⟩), .pointer (some ⟨b, 0, none⟩), .agg #[.slice (some ⟨q, 0, none⟩) (64 * n) (64 * n)], rval c t n]) (by simp [results, Try.results12, go_sem, rval, r0, r1, r2]) rfl ⟨n, r, fb, g, b, m1, m2, q, c, t, L, s1, s2, rfl, hn1, hn2, HY.out.2⟩
end Go.Proofs.Ytnpnedimgfbnhaa
