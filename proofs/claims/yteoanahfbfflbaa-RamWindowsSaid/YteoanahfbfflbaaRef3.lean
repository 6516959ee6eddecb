/- The document's memory: copies and frames. -/
import Derived.Test.YteoanahfbfflbaaRef2
import Derived.Outline
namespace Go.Proofs.Yteoanahfbfflbaa
open Go.RowKit Go.Mum

/-- What a call that hands back bytes leaves. -/
def RowPost (M : List Int) (w : World) (e : Ending) (w' : World) : Prop := ∃ a c, e = .returned (.slice a M.length c) ∧ Row w' a c M ∧ Keep [] w w'

theorem rowPost_own {M : List Int} {w : World} {e : Ending} {w' : World} (h : OwnPost M w e w') : RowPost M w e w' := by
  obtain ⟨v, rfl, ho, hk⟩ := h
  obtain ⟨a, c, rfl, hr⟩ := ho.shape
  exact ⟨a, c, rfl, hr, hk⟩

theorem rowPost_none {w : World} : RowPost [] w (.returned (.slice none 0 0)) w := ⟨Option.none, 0, rfl, Row.nil w, Keep.refl _ _⟩

theorem own_grown {w x y : World} {v : Value} (h : Keep [] w x) (hg : x.grownBy y v.ownBlock) {L : List Int} (ho : Own x w.heap.size 5 v L) : Keep [] w y :=
  h.grown hg fun k hk => .inr (ho.block k hk).1

/-- What Copy leaves. -/
def FCopyPost (L : List Int) (w : World) (e : Ending) (w' : World) : Prop := ∃ v, e = .returned (.agg #[v]) ∧ Own w' w.heap.size 5 v L ∧ Keep [] w w'

set_option maxRecDepth 100000 in
set_option maxHeartbeats 2000000 in
theorem fcopy_at {w : World} {a : Option Addr} {L : List Int} (h : RefAt w a L) :
    Calls Try.prog 53 #[.agg #[.slice a L.length L.length]] w (FCopyPost L w) := by
  have hl := h.2.2
  have H := Lib.hid h
  clear h
  go_enter Try.func53, Try.ntmps53
  go_wp2_with fail
  obtain ⟨y, hy⟩ : ∃ y, y = (w.alloc (.cells #[.slice a L.length L.length] 35)).alloc (.cells #[.slice none 0 0] 35) := ⟨_, rfl⟩
  have HY : Hid (Keep [] w y ∧ y.cell? ⟨w.heap.size, 0, none⟩ = some (.slice a L.length L.length) ∧ y.heap[w.heap.size + 1]? = some (.cells #[.slice none 0 0] 35 (0, 0)) ∧ w.heap.size + 2 ≤ y.heap.size) := Lib.hid (by
    subst hy
    exact ⟨((Keep.refl _ _).alloc _).alloc _, cell_of (heap_alloc_other _ (heap_alloc_same _ _)) 0 rfl, heap_alloc_at _ (by simp), by simp⟩)
  rw [← hy]
  clear hy
  go_loopw [3, 4] (fun o i wr => ∃ j : Nat, i = .int .i64 j ∧ j ≤ L.length ∧ Own wr (w.heap.size + 2) 5 o (L.take j) ∧ Keep [] w wr ∧ wr.cell? ⟨w.heap.size, 0, none⟩ = some (.slice a L.length L.length) ∧ wr.heap[w.heap.size + 1]? = some (.cells #[.slice none 0 0] 35 (0, 0)) ∧ w.heap.size + 2 ≤ wr.heap.size) (fun _ i _ => L.length - (intOf i).toNat)
  case atStart => exact ⟨0, rfl, by omega, Own.nil _ _ _, HY.out.1, HY.out.2.1, HY.out.2.2.1, HY.out.2.2.2⟩
  case round =>
    clear HY
    obtain ⟨j, rfl, hj, hO, hK, hcb, hbl, hsz⟩ := hrel
    by_cases hlt : j < L.length
    · obtain ⟨q, rfl, hq⟩ := (H.out.keep0 hK).some_of (by omega)
      have hc := u8_cell hq hlt
      have hx := u8_byte H.out.2.1 hlt
      have hT := Lib.hid (take_snoc hlt)
      have HO := Lib.hid (And.intro hO (And.intro hK (And.intro hcb hbl)))
      generalize L.getD j 0 = x at hc hx hT
      clear hO hK hq hbl
      have HS : Hid (∀ v2 w2, wr.alloc (.cells #[.int .u8 x] 5) |>.grownBy w2 u3.ownBlock → Own w2 (w.heap.size + 2) 5 v2 (L.take j ++ [x]) → Own w2 (w.heap.size + 2) 5 v2 (L.take (j + 1)) ∧ Keep [] w w2 ∧ w2.cell? ⟨w.heap.size, 0, none⟩ = some (.slice (some ⟨q, 0, none⟩) L.length L.length) ∧ w2.heap[w.heap.size + 1]? = some (.cells #[.slice none 0 0] 35 (0, 0)) ∧ w.heap.size + 2 ≤ w2.heap.size) := Lib.hid (by
        intro v2 w2 hg ho
        have hlo : ∀ k, u3.ownBlock = some k → w.heap.size + 2 ≤ k := fun k hk => (HO.out.1.block k hk).1
        have hgk : Keep u3.ownBlock.toList (wr.alloc (.cells #[.int .u8 x] 5)) w2 := ⟨hg.os, hg.tape, hg.output, hg.size, fun b hb hn => hg.block b hb (by intro e; rw [← e] at hn; simp at hn)⟩
        refine ⟨by rw [hT.out]; exact ho, (HO.out.2.1.alloc _).then hgk (fun k hk hlt => by rw [Option.mem_toList] at hk; have := hlo k hk; omega), ?_, ?_, ?_⟩
        · exact hgk.cell (((Keep.refl [] wr).alloc _).cell HO.out.2.2.1 (by simp)) (by simp only [Option.mem_toList]; intro e; have := hlo _ e; omega)
        · exact hgk.heap (heap_alloc_other _ HO.out.2.2.2) (by simp only [Option.mem_toList]; intro e; have := hlo _ e; omega)
        · have := hg.size; simp at this; omega)
      go_wp2_with (at_builtin; refine wpList_append_row rfl _ _ 30 rfl (w.heap.size + 2) 5 Try.underlying30 info_u8 u3 (L.take j) [x] rfl (HO.out.1.keep0 ((Keep.refl [] wr).alloc _)) (some ⟨wr.heap.size, 0, none⟩) _ 1 rfl rfl (row_one wr _ hx) (by simp; omega) (by simp; omega) ?_; intro v2 w2 ho hg; have HG := Lib.hid (HS.out v2 w2 hg ho); clear ho hg)
      go_roundw
      case rel => exact ⟨j + 1, by go_num, by omega, HG.out.1, HG.out.2.1, HG.out.2.2.1, HG.out.2.2.2.1, HG.out.2.2.2.2⟩
      case measure => simp [intOf]; omega
    · obtain rfl : j = L.length := by omega
      have hcr : wr.cell? ⟨w.heap.size + 1, 0, none⟩ = some (.slice none 0 0) := cell_of hbl 0 rfl
      have hfr := frozen_of hbl 0
      rw [List.take_length] at hO
      obtain ⟨a', c', rfl, -⟩ := hO.shape
      have HF : Hid (FCopyPost L w (.returned (.agg #[.slice a' L.length c'])) (wr.setCell ⟨w.heap.size + 1, 0, none⟩ (.slice a' L.length c'))) := Lib.hid ⟨_, rfl, by
        exact (hO.keep ((Keep.refl [w.heap.size + 1] wr).setCell (.inl (by simp)) _) (by intro k hk; have := hO.block k hk; simp; omega)).lower (by omega), hK.setCell (.inr (by simp)) _⟩
      clear hO hK hbl
      go_wp2_with fail
      exact bodyPost_ret (v := .agg #[.slice a' L.length c']) (by simp [results, Try.results53, go_sem, World.cell?_setCell_same, hcr]) rfl HF.out

set_option maxHeartbeats 1000000 in
theorem fframe_no {w : World} {a : Option Addr} {L : List Int} (h : RefAt w a L) (k : Int) (h1 : -9223372036854775808 ≤ k) (h2 : k ≤ 9223372036854775807) (hk : k < 0 ∨ (L.length : Int) / 64 ≤ k) :
    Calls Try.prog 36 #[.agg #[.slice a L.length L.length], .int .i64 k] w (RowPost [] w) := by
  have hl := h.2.2
  have HF : Hid (∀ o, RowPost [] w (.returned (.slice none 0 0)) (w.alloc o)) := Lib.hid fun o => ⟨none, 0, rfl, Row.nil _, (Keep.refl _ _).alloc _⟩
  clear h
  by_cases h0 : k < 0
  · clear hk
    go_enter Try.func36, Try.ntmps36
    go_wp2_with fail
    go_ret
    exact HF.out _
  · have hk' : (L.length : Int) / 64 ≤ k := by omega
    clear hk
    go_enter Try.func36, Try.ntmps36
    go_wp2_with fail
    go_ret
    exact HF.out _

set_option maxRecDepth 100000 in
set_option maxHeartbeats 1000000 in
theorem fframe_yes {w : World} {a : Option Addr} {L : List Int} (h : RefAt w a L) (k : Nat) (hk : 64 * k + 64 ≤ L.length) :
    Calls Try.prog 36 #[.agg #[.slice a L.length L.length], .int .i64 k] w (RowPost ((L.drop (64 * k)).take 64) w) := by
  have hl := h.2.2
  have C := Lib.hid (fun o => fcopy_at (h.keep0 ((Keep.refl [] w).alloc o)))
  have hk' : ¬ ((L.length : Int) / 64 ≤ (k : Int)) := by omega
  have hK : ∀ o, Keep [] w (w.alloc o) := fun o => (Keep.refl _ _).alloc o
  have HK := Lib.hid hK
  have hln : ((L.drop (64 * k)).take 64).length = 64 := by rw [List.length_take, List.length_drop]; omega
  have HN := Lib.hid hln
  have hfd : ∀ (a : Option Addr) (n c : Nat) (w : World), (Instr.field 35 (.agg #[.slice a n c]) 0).run Try.prog w = .ok (.slice a n c) w := fun _ _ _ _ => by kernel_rfl
  clear h hK hln
  go_enter Try.func36, Try.ntmps36
  go_wp2_with fail
  refine (C.out _).mono ?_
  rintro e y ⟨v, rfl, hO, hKy⟩
  obtain ⟨a', c', rfl, hR⟩ := hO.shape
  obtain ⟨b, off, rfl⟩ := hR.some_of (by omega)
  obtain ⟨a2, hsl, hR2⟩ := run_slice_row (P := Try.prog) Try.underlying30 size_u8 hR (64 * k) (64 * k + 64) (by omega) (by omega)
  rw [show 64 * k + 64 - 64 * k = 64 by omega] at hsl hR2
  have hsl' : ∀ W : World, (Instr.slice 30 (.slice (some ⟨b, off, none⟩) L.length c') (some (.int .i64 ((k : Int) * 64))) (some (.int .i64 ((k : Int) * 64 + 64))) none).run Try.prog W = .ok (.slice a2 64 (c' - 64 * k)) W := fun W => by
    have := hsl W
    rw [show (((64 * k : Nat)) : Int) = (k : Int) * 64 by omega, show (((64 * k + 64 : Nat)) : Int) = (k : Int) * 64 + 64 by omega] at this
    exact this
  have HF : Hid (RowPost ((L.drop (64 * k)).take 64) w (.returned (.slice a2 64 (c' - 64 * k))) y) := Lib.hid ⟨a2, _, by rw [HN.out], hR2, (HK.out _).trans hKy⟩
  clear hO hKy hR hsl hR2
  go_wp2_with fail
  go_ret
  exact HF.out
end Go.Proofs.Yteoanahfbfflbaa
