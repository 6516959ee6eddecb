/- Sealed bytes: Seal, Open, and the document's. -/
import Derived.Test.YtffpccijmgjofaaWireSums
import Derived.Test.YtffpccijmgjofaaWireOnce
namespace Go.Proofs.Ytffpccijmgjofaa
open Go.RowKit Go.Mum

/-- A sum's four bytes. -/
def le4 (s : Nat) : List Int := [(s : Int) % 256, (s : Int) / 256 % 256, (s : Int) / 65536 % 256, (s : Int) / 16777216]
def sealL (L : List Int) : List Int := L ++ le4 (sumOf L)

theorem le4_bytes {s : Nat} (hs : s < 4294967296) : IsBytes (le4 s) := by
  intro x hx
  simp only [le4, List.mem_cons, List.not_mem_nil, or_false] at hx
  rcases hx with rfl | rfl | rfl | rfl <;> omega
theorem sumOf_lt (L : List Int) : sumOf L < 4294967296 := by unfold sumOf; omega
theorem le4_length (s : Nat) : (le4 s).length = 4 := rfl
theorem sealL_length (L : List Int) : (sealL L).length = L.length + 4 := by simp [sealL, le4]
theorem sealL_bytes {L : List Int} (h : IsBytes L) : IsBytes (sealL L) := isBytes_append h (le4_bytes (sumOf_lt L))

theorem row_four (w : World) (z0 z1 z2 z3 : Int) (h : IsBytes [z0, z1, z2, z3]) : Row (w.alloc (.cells #[.int .u8 z0, .int .u8 z1, .int .u8 z2, .int .u8 z3] 5)) (some ⟨w.heap.size, 0, none⟩) 4 [z0, z1, z2, z3] :=
  ⟨h, ⟨Nat.le_refl _, by unfold maxLen; simp⟩, .inr <| .inr ⟨_, _, rfl, fun i hi => by
    simp only [List.length_cons, List.length_nil] at hi
    match i, hi with
    | 0, _ => exact cell_of (heap_alloc_same w _) 0 rfl
    | 1, _ => exact cell_of (heap_alloc_same w _) 1 rfl
    | 2, _ => exact cell_of (heap_alloc_same w _) 2 rfl
    | 3, _ => exact cell_of (heap_alloc_same w _) 3 rfl⟩⟩

set_option maxRecDepth 100000 in
set_option maxHeartbeats 1000000 in
theorem seal_at {a : Option Addr} {c : Nat} {L : List Int} {w : World} (h : Row w a c L) (hl : L.length ≤ 4294967296) :
    Calls Try.prog 21 #[.slice a L.length c] w (PutPost (sealL L) w) := by
  have HR := Lib.hid h
  have he := empty_u8
  have C1 := sum_at (pieces_one (w := w) (x := (a, c, L)) h)
  rw [show joined [(a, c, L)] = L by simp [joined]] at C1
  have C := Lib.hid C1
  have hs := sumOf_lt L
  have hb := Lib.hid (le4_bytes (sumOf_lt L))
  have hF : Hid (∀ (v : Value) (y : World), Own y w.heap.size 5 v (L ++ le4 (sumOf L)) → Keep [] w y → PutPost (sealL L) w (.returned v) y) := Lib.hid fun v y h1 h2 => ⟨v, rfl, h1, h2⟩
  unfold le4 at hb hF
  generalize sumOf L = s at C hs hb hF
  clear h C1
  go_enter Try.func21, Try.ntmps21
  go_wp2_with fail
  refine C.out.mono ?_
  rintro e y ⟨rfl, rfl⟩
  have K0 : Hid (Keep [] w (w.alloc (.cells #[.slice a L.length c] 22))) := Lib.hid ((Keep.refl [] w).alloc _)
  generalize hy : w.alloc _ = y0 at K0
  clear hy C
  have z0 := K0.out.size
  go_wp2_with (first
    | (at_builtin; refine wpList_append_row rfl _ _ 22 rfl w.heap.size 5 Try.underlying22 info_u8 (.slice (some ⟨y0.heap.size, 0, none⟩) 0 0) [] L rfl (Own.empty (heap_alloc_at _ rfl) z0) a _ c rfl rfl (HR.out.keep0 (K0.out.alloc _)) (by simp; omega) (by simp; omega) ?_; intro v1 y1 ho hg; have H1 : Hid (Own y1 w.heap.size 5 v1 L ∧ Keep [] w y1) := Lib.hid (And.intro ho ((K0.out.alloc _).grown hg (by intro k hk; simp [Value.ownBlock] at hk; omega))); clear ho hg; have z1 := H1.out.2.size)
    | (at_builtin; refine wpList_append_row rfl _ _ 22 rfl w.heap.size 5 Try.underlying22 info_u8 v1 L [(s : Int) % 256, (s : Int) / 256 % 256, (s : Int) / 65536 % 256, (s : Int) / 16777216] rfl (H1.out.1.keep0 ((Keep.refl [] y1).alloc _)) (some ⟨y1.heap.size, 0, none⟩) _ 4 rfl rfl (row_four y1 _ _ _ _ hb.out) (by simp; omega) (by simp; omega) ?_; intro v2 y2 ho hg; have H2 := Lib.hid (hF.out v2 y2 ho (own_grown (H1.out.2.alloc _) hg (H1.out.1.keep0 ((Keep.refl [] y1).alloc _)))); clear ho hg))
  go_ret
  exact H2.out

theorem le4_take {s : Nat} (hs : s < 4294967296) : ∀ k, k < 4 → (le4 s).take (k + 1) = (le4 s).take k ++ [((s / 256 ^ k % 256 : Nat) : Int)]
  | 0, _ => by simp [le4]
  | 1, _ => by simp [le4]
  | 2, _ => by simp [le4]
  | 3, _ => by simp [le4]; omega
  | k + 4, h => by omega

set_option maxRecDepth 100000 in
set_option maxHeartbeats 1000000 in
theorem sealed_at {a : Option Addr} {c : Nat} {L : List Int} {w : World} (h : Row w a c L) (hl : L.length ≤ 4294967296) :
    Calls Try.prog 23 #[.slice a L.length c] w (PutPost (sealL L) w) := by
  have HR := Lib.hid h
  clear h
  go_enter Try.func23, Try.ntmps23
  go_wp2
  go_loopw [3, 4] (fun o i wr => ∃ j : Nat, i = .int .i64 j ∧ j ≤ L.length ∧ Own wr w.heap.size 5 o (L.take j) ∧ Keep [] w wr) (fun _ i _ => L.length - (intOf i).toNat)
  case atStart => exact ⟨0, rfl, by omega, Own.nil _ _ _, Keep.refl _ _⟩
  case round =>
    obtain ⟨j, rfl, hj, hO, hK⟩ := hrel
    have HO := Lib.hid (And.intro hO hK)
    have hsz := hK.size
    clear hO hK
    by_cases hlt : j < L.length
    · obtain ⟨b, off, rfl, hc⟩ : ∃ b off, a = some ⟨b, off, none⟩ ∧ wr.cell? ⟨b, off + j, none⟩ = some (.int .u8 (L.getD j 0)) := by
        rcases (HR.out.keep0 HO.out.2).at' with ⟨_, rfl, _⟩ | ⟨rfl, _⟩ | ⟨b, off, rfl, hc⟩
        · simp at hlt
        · simp at hlt
        · exact ⟨b, off, rfl, hc j hlt⟩
      have hx : 0 ≤ L.getD j 0 ∧ L.getD j 0 < 256 := HR.out.bytes _ (by simp [List.getD, List.getElem?_eq_getElem hlt])
      have hT : Hid (L.take (j + 1) = L.take j ++ [L.getD j 0]) := Lib.hid (by rw [take_succ' hlt]; simp [List.getD, List.getElem?_eq_getElem hlt])
      generalize L.getD j 0 = x at hc hx hT
      go_wp2_with (at_builtin; refine wpList_append_row rfl _ _ 22 rfl w.heap.size 5 Try.underlying22 info_u8 u3 (L.take j) [x] rfl (HO.out.1.keep0 ((Keep.refl [] wr).alloc _)) (some ⟨wr.heap.size, 0, none⟩) _ 1 rfl rfl (row_one wr _ hx) (by simp; omega) (by simp; omega) ?_; intro v2 w2 ho hg; have HG := Lib.hid (And.intro ho (own_grown (HO.out.2.alloc _) hg (HO.out.1.keep0 ((Keep.refl [] wr).alloc _)))); clear ho hg)
      go_roundw
      case rel => exact ⟨j + 1, by go_num, by omega, by rw [hT.out]; exact HG.out.1, HG.out.2⟩
      case measure => simp [intOf]; omega
    · obtain rfl : j = L.length := by omega
      rw [List.take_length] at HO
      have hs := sumOf_lt L
      have C := Lib.hid (rsum_at (HR.out.keep0 HO.out.2))
      generalize hsu : sumOf L = s at C hs
      have HS := Lib.hid hsu
      clear hsu
      go_wp2_with fail
      refine C.out.mono ?_
      rintro e y ⟨rfl, rfl⟩
      clear C
      go_wp2_with fail
      have HW := Lib.hid HO.out
      clear HO hsz
      generalize hwr : wr = wq at HW
      clear hwr
      go_loopw [3, 5, 6] (fun o q i wr => ∃ k : Nat, i = .int .i64 k ∧ q = .int .u32 ((s / 256 ^ k : Nat) : Int) ∧ k ≤ 4 ∧ Own wr w.heap.size 5 o (L ++ (le4 s).take k) ∧ Keep [] w wr) (fun _ _ i _ => 4 - (intOf i).toNat)
      case atStart => exact ⟨0, rfl, by simp, by omega, by simpa using HW.out.1, HW.out.2⟩
      case round =>
        obtain ⟨k, rfl, rfl, hk, hO, hK⟩ := hrel
        have HO := Lib.hid (And.intro hO hK)
        have hsz := hK.size
        clear hO hK HW
        by_cases hk4 : k < 4
        · have hT := Lib.hid (le4_take hs k hk4)
          have hz : s / 256 ^ k < 4294967296 := Nat.lt_of_le_of_lt (Nat.div_le_self _ _) hs
          have hq : Hid (s / 256 ^ (k + 1) = s / 256 ^ k / 256) := Lib.hid (by rw [Nat.pow_succ, Nat.div_div_eq_div_mul])
          generalize s / 256 ^ k = z at hT hz hq
          have hlen : (L ++ (le4 s).take k).length ≤ 4294967300 := by rw [List.length_append, List.length_take, le4_length]; omega
          go_wp2_with (at_builtin; refine wpList_append_row rfl _ _ 22 rfl w.heap.size 5 Try.underlying22 info_u8 u3 (L ++ (le4 s).take k) [(z : Int) % 256] rfl (HO.out.1.keep0 ((Keep.refl [] wr).alloc _)) (some ⟨wr.heap.size, 0, none⟩) _ 1 rfl rfl (row_one wr _ (by omega)) (by simp only [List.length_singleton]; omega) (by simp; omega) ?_; intro v2 w2 ho hg; have HG := Lib.hid (And.intro ho (own_grown (HO.out.2.alloc _) hg (HO.out.1.keep0 ((Keep.refl [] wr).alloc _)))); clear ho hg)
          go_roundw
          case rel => exact ⟨k + 1, by go_num, by rw [hq.out]; go_num, by omega, by rw [hT.out, ← List.append_assoc]; exact HG.out.1, HG.out.2⟩
          case measure => simp [intOf]; omega
        · obtain rfl : k = 4 := by omega
          have hF : Hid (PutPost (sealL L) w (.returned u3) wr) := Lib.hid ⟨u3, rfl, by unfold sealL; rw [HS.out]; exact HO.out.1, HO.out.2⟩
          go_wp2
          go_ret
          exact hF.out
end Go.Proofs.Ytffpccijmgjofaa
