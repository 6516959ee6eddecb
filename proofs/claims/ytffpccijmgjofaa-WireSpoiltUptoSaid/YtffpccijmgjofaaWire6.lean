/- Sealed bytes opened. -/
import Derived.Test.YtffpccijmgjofaaWire5
import Derived.Test.YtffpccijmgjofaaWire3
import Derived.Lib.EndianBits
import Derived.Deep.QuietTactic
import Derived.BigQuiet
namespace Go.Proofs.Ytffpccijmgjofaa
open Go.RowKit Go.Mum

/-- Four bytes as a number. -/
def val4 : List Int → Int
  | [d0, d1, d2, d3] => d0 + d1 * 256 + d2 * 65536 + d3 * 16777216
  | _ => 0

def openL (T : List Int) : List Int × Int :=
  if T.length < 4 then ([], 290) else if ((sumOf (T.take (T.length - 4)) : Nat) : Int) = val4 (T.drop (T.length - 4)) then (T.take (T.length - 4), 0) else ([], 292)

def OpenPost (q : List Int × Int) (w : World) (e : Ending) (w' : World) : Prop :=
  ∃ a c, e = .returned (.tuple #[.slice a q.1.length c, .int .i64 q.2]) ∧ Row w' a c q.1 ∧ Keep [] w w'

theorem op_none {w x : World} (z : Int) (h : Keep [] w x) : OpenPost ([], z) w (.returned (.tuple #[.slice none 0 0, .int .i64 z])) x := ⟨none, 0, rfl, Row.nil x, h⟩

set_option maxRecDepth 100000 in
set_option maxHeartbeats 2000000 in
theorem open_at {a : Option Addr} {c : Nat} {T : List Int} {w : World} (h : Row w a c T) (hl : T.length ≤ 4294967296) :
    Calls Try.prog 22 #[.slice a T.length c] w (OpenPost (openL T) w) := by
  have HR := Lib.hid h
  clear h
  unfold openL
  by_cases h4 : T.length < 4
  · rw [if_pos h4]
    have h4' : (T.length : Int) < 4 := by omega
    have hF := Lib.hid (op_none (w := w) 290 (Keep.refl _ _))
    go_enter Try.func22, Try.ntmps22
    go_wp2
    go_ret2
    exact hF.out
  · rw [if_neg h4]
    obtain ⟨m, hm⟩ : ∃ m, T.length = m + 4 := ⟨T.length - 4, by omega⟩
    obtain ⟨b, off, rfl⟩ := HR.out.some_of (by omega)
    have hcell : ∀ k, k < 4 → w.cell? ⟨b, off + (m + k), none⟩ = some (.int .u8 (T.getD (m + k) 0)) := by
      intro k hk
      rcases HR.out.at' with ⟨hh, _⟩ | ⟨rfl, _⟩ | ⟨b', off', e, hc⟩
      · cases hh
      · simp at hm
      · cases e
        exact hc (m + k) (by omega)
    have hd : T.drop m = [T.getD m 0, T.getD (m + 1) 0, T.getD (m + 2) 0, T.getD (m + 3) 0] := by
      rw [drop_cons (by omega), drop_cons (by omega), drop_cons (by omega), drop_cons (by omega), List.drop_eq_nil_of_le (by omega)]
    have hb : ∀ k, k < 4 → 0 ≤ T.getD (m + k) 0 ∧ T.getD (m + k) 0 < 256 := fun k hk => HR.out.bytes _ (by simp [List.getD, List.getElem?_eq_getElem (show m + k < T.length by omega)])
    have c0 := hcell 0 (by omega)
    have c1 := hcell 1 (by omega)
    have c2 := hcell 2 (by omega)
    have c3 := hcell 3 (by omega)
    have b0 := hb 0 (by omega)
    have b1 := hb 1 (by omega)
    have b2 := hb 2 (by omega)
    have b3 := hb 3 (by omega)
    rw [Nat.add_zero] at c0 b0
    rw [show T.length - 4 = m by omega, hd, val4]
    have HT : Hid (Row w (some ⟨b, off, none⟩) c (T.take m)) := Lib.hid (HR.out.take m)
    have htl : (T.take m).length = m := by rw [List.length_take]; omega
    have hcap : ((m + 4 : Nat) : Int) ≤ (c : Int) := by have := HR.out.cap; omega
    have hc9 : (c : Int) ≤ 9223372036854775807 := by have := HR.out.cap; unfold maxLen at this; omega
    rw [hm] at hl ⊢
    have hM := sumOf_lt (T.take m)
    generalize T.getD m 0 = d0 at *
    generalize T.getD (m + 1) 0 = d1 at *
    generalize T.getD (m + 2) 0 = d2 at *
    generalize T.getD (m + 3) 0 = d3 at *
    clear hcell hb hd HR h4 hm
    generalize T.take m = M at *
    subst htl
    have hv : bits BinOp.or IntKind.u32 (bits BinOp.or IntKind.u32 (bits BinOp.or IntKind.u32 d0 (d1 * 256)) (d2 * 65536)) (d3 * 16777216) = d0 + d1 * 256 + d2 * 65536 + d3 * 16777216 := by
      rw [u32_or8 d0 (d1 * 256) (by omega) (by omega) (by omega) (by omega) (by omega), u32_or16 (d0 + d1 * 256) (d2 * 65536) (by omega) (by omega) (by omega) (by omega) (by omega),
        u32_or24 (d0 + d1 * 256 + d2 * 65536) (d3 * 16777216) (by omega) (by omega) (by omega) (by omega) (by omega)]
    have j4 : ¬ ((M.length : Int) + 4 < 4) := by omega
    have he := empty_u8
    obtain ⟨q, hq⟩ : ∃ q : List Int × Int, q = if ((sumOf M : Nat) : Int) = d0 + d1 * 256 + d2 * 65536 + d3 * 16777216 then (M, 0) else ([], 292) := ⟨_, rfl⟩
    rw [← hq]
    have HQ := Lib.hid hq
    clear hq
    have i1 : (M.length : Int) + 1 < (M.length : Int) + 4 := by omega
    have i2 : (M.length : Int) + 2 < (M.length : Int) + 4 := by omega
    have i3 : (M.length : Int) + 3 < (M.length : Int) + 4 := by omega
    have i0 : (M.length : Int) < (M.length : Int) + 4 := by omega
    go_enter Try.func22, Try.ntmps22
    go_wp2
    go_quiet (fail)
    go_wp2_with fail
    have C1 := sum_at (pieces_one (w := w.drewN nq) (x := (some ⟨b, off, none⟩, c, M)) (HT.out.keep0 ((Keep.refl [] w).drewN nq)))
    rw [show joined [((some ⟨b, off, none⟩ : Option Addr), c, M)] = M by simp [joined]] at C1
    refine C1.mono ?_
    rintro e y ⟨rfl, rfl⟩
    clear C1
    have K1 : Hid (Keep [] w ((w.drewN nq).alloc (.cells #[.slice (some ⟨b, off, none⟩) M.length c] 22))) := Lib.hid (((Keep.refl [] w).drewN nq).alloc _)
    generalize hy : (w.drewN nq).alloc _ = y1 at K1
    clear hy c0 c1 c2 c3
    have z1 := K1.out.size
    generalize hV : d0 + d1 * 256 + d2 * 65536 + d3 * 16777216 = V at HQ
    rw [hV] at hv
    by_cases hs : ((sumOf M : Nat) : Int) = V
    · obtain rfl : q = (M, 0) := by rw [HQ.out, if_pos hs]
      have H1 : Hid (∀ (v : Value) (y : World), Own y w.heap.size 5 v ([] ++ M) → Keep [] w y → OpenPost (M, 0) w (.returned (.tuple #[v, .int .i64 0])) y) := Lib.hid fun v y h1 h2 => by
        obtain ⟨a, c, rfl, hR⟩ := h1.shape
        exact ⟨a, c, rfl, hR, h2⟩
      go_wp2_with (at_builtin; refine wpList_append_row rfl _ _ 22 rfl w.heap.size 5 Try.underlying22 info_u8 (.slice (some ⟨y1.heap.size, 0, none⟩) 0 0) [] M rfl (Own.empty (heap_alloc_at _ rfl) z1) (some ⟨b, off, none⟩) _ c rfl rfl (HT.out.keep0 (K1.out.alloc _)) (by simp; omega) (by simp; omega) ?_; intro v2 y2 ho hg; have H2 := Lib.hid (H1.out v2 y2 ho ((K1.out.alloc _).grown hg (by intro k hk; simp [Value.ownBlock] at hk; omega))); clear ho hg)
      go_ret2
      exact H2.out
    · obtain rfl : q = ([], 292) := by rw [HQ.out, if_neg hs]
      have hF := Lib.hid (op_none 292 K1.out)
      go_wp2
      go_ret2
      exact hF.out
end Go.Proofs.Ytffpccijmgjofaa
