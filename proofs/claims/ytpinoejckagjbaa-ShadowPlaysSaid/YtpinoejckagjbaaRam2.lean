/- Words and frames of a memory. -/
import Derived.Test.YtpinoejckagjbaaRam1
import Derived.Lib.EndianBits
import Derived.Deep.QuietTactic
import Derived.BigQuiet
namespace Go.Proofs.Ytpinoejckagjbaa
open Go.RowKit Go.Mum

/-- Four bytes as a number. -/
def word4 (L : List Int) (p : Nat) : Int := L.getD p 0 + L.getD (p + 1) 0 * 256 + L.getD (p + 2) 0 * 65536 + L.getD (p + 3) 0 * 16777216

set_option maxHeartbeats 400000 in
theorem rword_no {w : World} {v : Value} {n : Nat} (h : Sz w v n) (a : Nat) (ha : a < 4294967296) (hn : ¬ (a % 4 = 0 ∧ a < 64 * n)) :
    Calls Try.prog 49 #[v, .int .u32 a] w fun e w' => e = .returned (.tuple #[.int .u32 0, .bool false]) ∧ w = w' := by
  have C := rwithin_any h a 4 4 ha (by omega) (.inr rfl)
  rw [decide_eq_false (by omega)] at C
  have C := Lib.hid C
  clear h hn
  go_enter Try.func49, Try.ntmps49
  go_wp2_with fail
  refine C.out.mono ?_
  rintro e w' ⟨rfl, rfl⟩
  go_wp2_with fail
  go_ret2
  exact ⟨rfl, rfl⟩

set_option maxHeartbeats 2000000 in
theorem rword_yes {w : World} {r fb g : Nat} {ks : List Nat} {L : List Int} (h : RamAt w r fb g ks L) (a : Nat) (h4 : a % 4 = 0) (ha : a < 64 * ks.length) :
    Calls Try.prog 49 #[.pointer (some ⟨r, 0, none⟩), .int .u32 a] w fun e w' => e = .returned (.tuple #[.int .u32 (word4 L (pl ks a)), .bool true]) ∧ ∃ n, w' = w.drewN n := by
  have hs := h.size
  have C := rwithin_any h.sz a 4 4 (by omega) (by omega) (.inr rfl)
  rw [decide_eq_true (by omega)] at C
  have C := Lib.hid C
  have D := Lib.hid (rat_at h a ha)
  have hp := h.pl_lt ha
  have hp2 : pl ks a = 64 * ks.getD (a / 64) 0 + a % 64 := rfl
  have c0 := h.cell (j := pl ks a) (by omega)
  have c1 := h.cell (j := pl ks a + 1) (by omega)
  have c2 := h.cell (j := pl ks a + 2) (by omega)
  have c3 := h.cell (j := pl ks a + 3) (by omega)
  have b0 := h.byte (j := pl ks a) (by omega)
  have b1 := h.byte (j := pl ks a + 1) (by omega)
  have b2 := h.byte (j := pl ks a + 2) (by omega)
  have b3 := h.byte (j := pl ks a + 3) (by omega)
  have m0 : (0 : Int) < ((64 - a % 64 : Nat) : Int) := by omega
  have m1 : (1 : Int) < ((64 - a % 64 : Nat) : Int) := by omega
  have m2 : (2 : Int) < ((64 - a % 64 : Nat) : Int) := by omega
  have m3 : (3 : Int) < ((64 - a % 64 : Nat) : Int) := by omega
  unfold word4
  clear hp hp2
  generalize pl ks a = p at *
  generalize 64 - a % 64 = q at *
  generalize L.getD p 0 = d0 at *
  generalize L.getD (p + 1) 0 = d1 at *
  generalize L.getD (p + 2) 0 = d2 at *
  generalize L.getD (p + 3) 0 = d3 at *
  have hv : bits BinOp.or IntKind.u32 (bits BinOp.or IntKind.u32 (bits BinOp.or IntKind.u32 d0 (d1 * 256)) (d2 * 65536)) (d3 * 16777216) = d0 + d1 * 256 + d2 * 65536 + d3 * 16777216 := by
    rw [u32_or8 d0 (d1 * 256) (by omega) (by omega) (by omega) (by omega) (by omega), u32_or16 (d0 + d1 * 256) (d2 * 65536) (by omega) (by omega) (by omega) (by omega) (by omega),
      u32_or24 (d0 + d1 * 256 + d2 * 65536) (d3 * 16777216) (by omega) (by omega) (by omega) (by omega) (by omega)]
  clear h ha h4
  go_enter Try.func49, Try.ntmps49
  go_wp2_with fail
  refine C.out.mono ?_
  rintro e w' ⟨rfl, rfl⟩
  go_wp2_with fail
  refine D.out.mono ?_
  rintro e w' ⟨rfl, rfl⟩
  go_wp2_with fail
  go_quiet (fail)
  go_wp2
  go_ret2
  exact ⟨rfl, _, rfl⟩

theorem info_u8 : (Try.prog.info? 5).map (fun i => (i.zero, i.size, i.bytes)) = some (some (.int .u8 0), 1, 1) := by kernel_rfl

theorem empty_u8 (w : World) : (Instr.buildSlice 48 0 #[]).run Try.prog w = .ok (.slice (some ⟨w.heap.size, 0, none⟩) 0 0) (w.alloc (.cells #[] 5)) := by
  obtain ⟨i0, hi, hz0, hz1, hz2⟩ := info_parts info_u8
  simp [Instr.buildSlice, run_underlying Try.underlying48, sizeOf, typeInfo, hi, Instr.fill, newRow, show Array.range 0 = #[] from rfl]

/-- The bytes of a frame. -/
def frameOf (ks : List Nat) (L : List Int) (k : Nat) : List Int := (L.drop (64 * ks.getD k 0)).take 64

/-- What a call that hands back a row of its own leaves. -/
def OwnPost (M : List Int) (w : World) (e : Ending) (w' : World) : Prop := ∃ v, e = .returned v ∧ Own w' w.heap.size 5 v M ∧ Keep [] w w'

theorem RamAt.frame {w : World} {r fb g : Nat} {ks : List Nat} {L : List Int} (h : RamAt w r fb g ks L) {k : Nat} (hk : k < ks.length) :
    Row w (some ⟨g, 64 * ks.getD k 0, none⟩) 64 (frameOf ks L k) ∧ (frameOf ks L k).length = 64 := by
  have hf := h.fits k hk
  have hl : (frameOf ks L k).length = 64 := by unfold frameOf; rw [List.length_take, List.length_drop]; omega
  refine ⟨⟨fun x hx => h.bytes x (List.mem_of_mem_drop (List.mem_of_mem_take hx)), ⟨by omega, by unfold maxLen; omega⟩, .inr (.inr ⟨g, _, rfl, fun i hi => ?_⟩)⟩, hl⟩
  rw [hl] at hi
  rw [h.cell (by omega)]
  congr 2
  unfold frameOf
  simp [List.getD, List.getElem?_take_of_lt hi]

set_option maxHeartbeats 1000000 in
theorem rframe_no {w : World} {v : Value} {n : Nat} (h : Sz w v n) (k : Int) (h1 : -9223372036854775808 ≤ k) (h2 : k ≤ 9223372036854775807) (hk : k < 0 ∨ (n : Int) ≤ k) :
    Calls Try.prog 19 #[v, .int .i64 k] w fun e w' => e = .returned (.slice none 0 0) ∧ w = w' := by
  have C := Lib.hid (rsize_any h)
  have hn := h.le
  have hd : 64 * (n : Int) / 64 = (n : Int) := by omega
  clear h
  by_cases h0 : k < 0
  · clear hk
    go_enter Try.func19, Try.ntmps19
    go_wp2_with fail
    go_ret
    exact ⟨rfl, rfl⟩
  · have hk' : (n : Int) ≤ k := by omega
    clear hk
    go_enter Try.func19, Try.ntmps19
    go_wp2_with fail
    refine C.out.mono ?_
    rintro e w' ⟨rfl, rfl⟩
    go_wp2_with fail
    go_ret
    exact ⟨rfl, rfl⟩

set_option maxHeartbeats 1000000 in
theorem rframe_yes {w : World} {r fb g : Nat} {ks : List Nat} {L : List Int} (h : RamAt w r fb g ks L) (k : Nat) (hk : k < ks.length) :
    Calls Try.prog 19 #[.pointer (some ⟨r, 0, none⟩), .int .i64 k] w (OwnPost (frameOf ks L k) w) := by
  have C := Lib.hid (rsize_any h.sz)
  have hn := h.size
  obtain ⟨cap, hc⟩ := h.hcell
  have hrow := h.row hk
  have HF := Lib.hid (h.frame hk)
  have hd : 64 * (ks.length : Int) / 64 = (ks.length : Int) := by omega
  have he := empty_u8
  have hc' := ((Keep.refl [] w).alloc (.cells #[] 5)).cell hc (by simp)
  have hrow' := ((Keep.refl [] w).alloc (.cells #[] 5)).cell hrow (by simp)
  clear h
  generalize frameOf ks L k = M at *
  generalize ks.getD k 0 = f at *
  go_enter Try.func19, Try.ntmps19
  go_wp2_with fail
  refine C.out.mono ?_
  rintro e w' ⟨rfl, rfl⟩
  go_wp2_with (at_builtin; refine wpList_append_row rfl _ _ 48 rfl w.heap.size 5 Try.underlying48 info_u8 (.slice (some ⟨w.heap.size, 0, none⟩) 0 0) [] M rfl (Own.empty (heap_alloc_at _ rfl) (Nat.le_refl _)) (some ⟨g, 64 * f, none⟩) 64 64 HF.out.2.symm rfl (HF.out.1.keep0 ((Keep.refl [] w).alloc _)) (by rw [HF.out.2]; simp) (by simp) ?_; intro v1 w1 ho hg; have HG : Hid (OwnPost M w (.returned v1) w1) := Lib.hid ⟨v1, rfl, by simpa using ho, ((Keep.refl [] w).alloc _).grown hg (by simp [Value.ownBlock])⟩; clear ho hg)
  go_ret
  exact HG.out
end Go.Proofs.Ytpinoejckagjbaa
