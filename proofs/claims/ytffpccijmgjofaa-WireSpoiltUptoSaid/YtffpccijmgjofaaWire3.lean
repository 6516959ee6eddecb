/- Rows of bytes: PutBytes, GetBytes, and the document's. -/
import Derived.Test.YtffpccijmgjofaaWireOnce
namespace Go.Proofs.Ytffpccijmgjofaa
open Go.RowKit Go.Mum

set_option maxRecDepth 100000 in
set_option maxHeartbeats 1000000 in
theorem putB_at {a a' : Option Addr} {c c' : Nat} {L M : List Int} {w : World} (h : Row w a c L) (h' : Row w a' c' M) (hl : L.length ≤ 4294967296) (hl' : M.length ≤ 4294967296) :
    Calls Try.prog 18 #[.slice a L.length c, .slice a' M.length c'] w (PutPost (L ++ number M.length ++ M) w) := by
  have H := Lib.hid (And.intro h h')
  have C := Lib.hid (put_at M.length (by omega) h hl)
  have hN := number_len10 (n := M.length) (by omega)
  clear h h'
  go_enter Try.func18, Try.ntmps18
  go_wp2_with fail
  refine C.out.mono ?_
  rintro e w1 ⟨v1, rfl, hO, hK⟩
  have HO := Lib.hid (And.intro hO (And.intro hK (H.out.2.keep0 hK)))
  have hsz := hK.size
  clear hO hK C
  go_wp2_with (at_builtin; go_loud (refine wpList_append_row rfl _ _ 22 rfl w.heap.size 5 Try.underlying22 info_u8 v1 (L ++ number M.length) M rfl HO.out.1 a' _ c' rfl rfl HO.out.2.2 (by simp; omega) (by omega) ?_); intro v2 w2 ho hg; have HG := Lib.hid (And.intro ho hg); clear ho hg)
  obtain ⟨ho, hg⟩ := HG.out
  have hK2 : Keep [] w w2 := own_grown HO.out.2.1 hg HO.out.1
  have HF : Hid (PutPost (L ++ number M.length ++ M) w (.returned v2) w2) := Lib.hid ⟨v2, rfl, ho, hK2⟩
  clear ho hg HG hK2
  go_ret
  exact HF.out

theorem size_u8 (w : World) : (Go.sizeOf 5).run Try.prog w = .ok 1 w := by kernel_rfl

/-- A row of bytes at the head of bytes. -/
def getB (L : List Int) (most : Int) : List Int × Nat × Int :=
  if (getL 0 0 L).2.2 ≠ 0 then ([], 0, (getL 0 0 L).2.2)
  else if most.toNat < (getL 0 0 L).1 then ([], 0, 3)
  else if L.length - (getL 0 0 L).2.1 < (getL 0 0 L).1 then ([], 0, 290)
  else ((L.drop (getL 0 0 L).2.1).take (getL 0 0 L).1, (getL 0 0 L).2.1 + (getL 0 0 L).1, 0)

def GBPost (q : List Int × Nat × Int) (w : World) (e : Ending) (w' : World) : Prop :=
  ∃ a c, e = .returned (.tuple #[.slice a q.1.length c, .int .i64 q.2.1, .int .i64 q.2.2]) ∧ Row w' a c q.1 ∧ Keep [] w w'

theorem gb_none {w : World} (k : Nat) (z : Int) : GBPost ([], k, z) w (.returned (.tuple #[.slice none 0 0, .int .i64 k, .int .i64 z])) w := ⟨none, 0, rfl, Row.nil w, Keep.refl _ _⟩

theorem gb_some {w w2 : World} {M : List Int} {z : Nat} {v2 : Value} (ho : Own w2 w.heap.size 5 v2 ([] ++ M)) (hg : (w.alloc (.cells #[] 5)).grownBy w2 (Value.slice (some ⟨w.heap.size, 0, none⟩) 0 0).ownBlock) :
    GBPost (M, z, 0) w (.returned (.tuple #[v2, .int .i64 z, .int .i64 0])) w2 := by
  obtain ⟨a, c, rfl, hR⟩ := ho.shape
  exact ⟨a, c, by simp, by simpa using hR, ((Keep.refl [] w).alloc _).grown hg (by simp [Value.ownBlock])⟩

set_option maxRecDepth 100000 in
set_option maxHeartbeats 1000000 in
theorem rgetB_at {a : Option Addr} {c : Nat} {L : List Int} {w : World} (h : Row w a c L) (most : Int) (hmo : -9223372036854775808 ≤ most ∧ most ≤ 9223372036854775807) :
    Calls Try.prog 20 #[.slice a L.length c, .int .i64 most] w (GBPost (getB L most) w) := by
  have hm : L.length ≤ 9223372036854775807 := by have := h.cap; unfold maxLen at this; omega
  have C := Lib.hid (rget_at h)
  have hS := getL_spec L 0 0 h.bytes (by omega) (by decide)
  have H := Lib.hid h
  clear h
  generalize hB : getB L most = B
  unfold getB at hB
  generalize hg : getL 0 0 L = q at hS hB C
  obtain ⟨n, k, er⟩ := q
  unfold getV at C
  clear hg
  simp only at hS hB C
  by_cases h0 : er = 0
  · subst h0
    obtain ⟨q1, q2, -, q4, -⟩ := hS.2 rfl
    clear hS
    rw [if_neg (by simp)] at hB
    obtain ⟨b, off, rfl⟩ := H.out.some_of (by omega)
    by_cases hbig : most.toNat < n
    · rw [if_pos hbig] at hB
      subst hB
      go_enter Try.func20, Try.ntmps20
      go_wp2_with fail
      refine C.out.mono ?_
      rintro e w' ⟨rfl, rfl⟩
      by_cases m0 : most < 0
      · go_wp2
        go_ret3
        exact gb_none 0 3
      · go_wp2
        go_ret3
        exact gb_none 0 3
    · rw [if_neg hbig] at hB
      by_cases hend : L.length - k < n
      · rw [if_pos hend] at hB
        subst hB
        have d1 : (L.length : Int) - (k : Int) < (n : Int) := by omega
        go_enter Try.func20, Try.ntmps20
        go_wp2_with fail
        refine C.out.mono ?_
        rintro e w' ⟨rfl, rfl⟩
        by_cases m0 : most < 0
        · exfalso
          omega
        · have d2 : ¬ (most < (n : Int)) := by omega
          go_wp2
          go_ret3
          exact gb_none 0 290
      · rw [if_neg hend] at hB
        subst hB
        have d1 : ¬ ((L.length : Int) - (k : Int) < (n : Int)) := by omega
        obtain ⟨a', hsl, hR'⟩ := run_slice_row (P := Try.prog) Try.underlying22 size_u8 H.out k (k + n) (by omega) (by omega)
        rw [show k + n - k = n by omega] at hsl hR'
        have hlen : ((L.drop k).take n).length = n := by rw [List.length_take, List.length_drop]; omega
        have HF : Hid (GBPost ((L.drop k).take n, k + n, 0) w (.returned (.tuple #[.slice a' n (c - k), .int .i64 ((k : Int) + (n : Int)), .int .i64 0])) w) := Lib.hid ⟨a', c - k, by rw [hlen]; simp, hR', Keep.refl _ _⟩
        clear hR' hlen
        go_enter Try.func20, Try.ntmps20
        go_wp2_with fail
        refine C.out.mono ?_
        rintro e w' ⟨rfl, rfl⟩
        have hsl' : ∀ W : World, (Instr.slice 22 (.slice (some ⟨b, off, none⟩) L.length c) (some (.int .i64 (k : Int))) (some (.int .i64 ((k : Int) + (n : Int)))) none).run Try.prog W = .ok (.slice a' n (c - k)) W := fun W => by have := hsl W; simpa using this
        clear hsl
        by_cases m0 : most < 0
        · have d2 : ¬ ((0 : Int) < (n : Int)) := by omega
          go_wp2
          go_ret3
          exact HF.out
        · have d2 : ¬ (most < (n : Int)) := by omega
          go_wp2
          go_ret3
          exact HF.out
  · rw [if_pos h0] at hB
    subst hB
    clear hS
    go_enter Try.func20, Try.ntmps20
    go_wp2_with fail
    refine C.out.mono ?_
    rintro e w' ⟨rfl, rfl⟩
    go_wp2_with fail
    go_ret3
    exact gb_none 0 er

set_option maxRecDepth 100000 in
set_option maxHeartbeats 1000000 in
theorem getB_at {a : Option Addr} {c : Nat} {L : List Int} {w : World} (h : Row w a c L) (hlL : L.length ≤ 4294967296) (most : Int) (hmo : -9223372036854775808 ≤ most ∧ most ≤ 9223372036854775807) :
    Calls Try.prog 19 #[.slice a L.length c, .int .i64 most] w (GBPost (getB L most) w) := by
  have hm : L.length ≤ 9223372036854775807 := by have := h.cap; unfold maxLen at this; omega
  have C := Lib.hid (get_at h)
  have hS := getL_spec L 0 0 h.bytes (by omega) (by decide)
  have H := Lib.hid h
  clear h
  generalize hB : getB L most = B
  unfold getB at hB
  generalize hg : getL 0 0 L = q at hS hB C
  obtain ⟨n, k, er⟩ := q
  unfold getV at C
  clear hg
  simp only at hS hB C
  by_cases h0 : er = 0
  · subst h0
    obtain ⟨q1, q2, -, q4, -⟩ := hS.2 rfl
    clear hS
    rw [if_neg (by simp)] at hB
    obtain ⟨b, off, rfl⟩ := H.out.some_of (by omega)
    by_cases hbig : most.toNat < n
    · rw [if_pos hbig] at hB
      subst hB
      go_enter Try.func19, Try.ntmps19
      go_wp2_with fail
      refine C.out.mono ?_
      rintro e w' ⟨rfl, rfl⟩
      by_cases m0 : most < 0
      · go_wp2
        go_ret3
        exact gb_none 0 3
      · go_wp2
        go_ret3
        exact gb_none 0 3
    · rw [if_neg hbig] at hB
      by_cases hend : L.length - k < n
      · rw [if_pos hend] at hB
        subst hB
        have d1 : (L.length : Int) - (k : Int) < (n : Int) := by omega
        go_enter Try.func19, Try.ntmps19
        go_wp2_with fail
        refine C.out.mono ?_
        rintro e w' ⟨rfl, rfl⟩
        by_cases m0 : most < 0
        · exfalso
          omega
        · have d2 : ¬ (most < (n : Int)) := by omega
          go_wp2
          go_ret3
          exact gb_none 0 290
      · rw [if_neg hend] at hB
        subst hB
        have d1 : ¬ ((L.length : Int) - (k : Int) < (n : Int)) := by omega
        obtain ⟨a', hsl, hR'⟩ := run_slice_row (P := Try.prog) Try.underlying22 size_u8 H.out k (k + n) (by omega) (by omega)
        rw [show k + n - k = n by omega] at hsl hR'
        have hlen : ((L.drop k).take n).length = n := by rw [List.length_take, List.length_drop]; omega
        have HR := Lib.hid hR'
        clear hR'
        have hle : n ≤ 4294967296 := by omega
        go_enter Try.func19, Try.ntmps19
        go_wp2_with fail
        refine C.out.mono ?_
        rintro e w' ⟨rfl, rfl⟩
        have hsl' : ∀ W : World, (Instr.slice 22 (.slice (some ⟨b, off, none⟩) L.length c) (some (.int .i64 (k : Int))) (some (.int .i64 ((k : Int) + (n : Int)))) none).run Try.prog W = .ok (.slice a' n (c - k)) W := fun W => by have := hsl W; simpa using this
        have he := empty_u8
        clear hsl
        by_cases m0 : most < 0
        · have d2 : ¬ ((0 : Int) < (n : Int)) := by omega
          go_wp2_with (at_builtin; refine wpList_append_row rfl _ _ 22 rfl w.heap.size 5 Try.underlying22 info_u8 (.slice (some ⟨w.heap.size, 0, none⟩) 0 0) [] ((L.drop k).take n) rfl (Own.empty (heap_alloc_at _ rfl) (Nat.le_refl _)) a' _ (c - k) hlen.symm rfl (HR.out.keep0 ((Keep.refl [] w).alloc _)) (by simp; omega) (by simp) ?_; intro v2 w2 ho hg; have HG := Lib.hid (And.intro ho hg); clear ho hg)
          have hF : Hid (GBPost ((L.drop k).take n, k + n, 0) w (.returned (.tuple #[v2, .int .i64 ((k + n : Nat) : Int), .int .i64 0])) w2) := Lib.hid (gb_some (w := w) (M := (L.drop k).take n) (z := k + n) HG.out.1 HG.out.2)
          clear HG
          go_ret3
          exact hF.out
        · have d2 : ¬ (most < (n : Int)) := by omega
          go_wp2_with (at_builtin; refine wpList_append_row rfl _ _ 22 rfl w.heap.size 5 Try.underlying22 info_u8 (.slice (some ⟨w.heap.size, 0, none⟩) 0 0) [] ((L.drop k).take n) rfl (Own.empty (heap_alloc_at _ rfl) (Nat.le_refl _)) a' _ (c - k) hlen.symm rfl (HR.out.keep0 ((Keep.refl [] w).alloc _)) (by simp; omega) (by simp) ?_; intro v2 w2 ho hg; have HG := Lib.hid (And.intro ho hg); clear ho hg)
          have hF : Hid (GBPost ((L.drop k).take n, k + n, 0) w (.returned (.tuple #[v2, .int .i64 ((k + n : Nat) : Int), .int .i64 0])) w2) := Lib.hid (gb_some (w := w) (M := (L.drop k).take n) (z := k + n) HG.out.1 HG.out.2)
          clear HG
          go_ret3
          exact hF.out
  · rw [if_pos h0] at hB
    subst hB
    clear hS
    go_enter Try.func19, Try.ntmps19
    go_wp2_with fail
    refine C.out.mono ?_
    rintro e w' ⟨rfl, rfl⟩
    go_wp2_with fail
    go_ret3
    exact gb_none 0 er

end Go.Proofs.Ytffpccijmgjofaa
