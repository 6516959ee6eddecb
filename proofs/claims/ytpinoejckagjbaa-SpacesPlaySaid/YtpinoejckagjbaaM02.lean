/- Contracts of the functions that the law reaches, walked, and the plain laws on them (several texts in one). -/
import Derived.Test.YtpinoejckagjbaaRows
import Derived.WalkMore
import Derived.IntWalk
import Derived.Lib.EndianBits
import Derived.Deep.QuietTactic
import Derived.BigQuiet
import Derived.Laws.CopyOwn
import Derived.Test.YtpinoejckagjbaaM01

/- The calls of the package ram that only read, one by one. -/
namespace Go.Proofs.Ytpinoejckagjbaa
open Go.RowKit Go.Mum

/-- A memory: its head in block r, its rows in block fb, its bytes L in block g; frame k begins at cell 64 * ks[k]. -/
structure RamAt (w : World) (r fb g : Nat) (ks : List Nat) (L : List Int) : Prop where
  head : ∃ cap, w.heap[r]? = some (.cells #[.slice (some ⟨fb, 0, none⟩) ks.length cap] 121 (0, 0)) ∧ ks.length ≤ cap ∧ cap ≤ maxLen
  rows : ∃ cs, w.heap[fb]? = some (.cells cs 48 (0, 0)) ∧ ∀ k, k < ks.length → cs[k]? = some (.slice (some ⟨g, 64 * ks.getD k 0, none⟩) 64 64)
  data : w.heap[g]? = some (.cells (u8s L).toArray 5 (0, 0))
  bytes : IsBytes L
  fits : ∀ k, k < ks.length → 64 * ks.getD k 0 + 64 ≤ L.length
  size : 1 ≤ ks.length ∧ ks.length ≤ 512

/-- Where in the block the byte at an address lies. -/
def pl (ks : List Nat) (a : Nat) : Nat := 64 * ks.getD (a / 64) 0 + a % 64

section
variable {w x : World} {r fb g : Nat} {ks : List Nat} {L : List Int}

theorem RamAt.keep {l : List Nat} (h : RamAt w r fb g ks L) (hk : Keep l w x) (h1 : r ∉ l) (h2 : fb ∉ l) (h3 : g ∉ l) : RamAt x r fb g ks L := by
  obtain ⟨⟨cap, a1, a2⟩, ⟨cs, b1, b2⟩, c, d1, d2, d3⟩ := h
  exact ⟨⟨cap, hk.heap a1 h1, a2⟩, ⟨cs, hk.heap b1 h2, b2⟩, hk.heap c h3, d1, d2, d3⟩

theorem RamAt.keep0 (h : RamAt w r fb g ks L) (hk : Keep [] w x) : RamAt x r fb g ks L := h.keep hk (by simp) (by simp) (by simp)

theorem RamAt.ne (h : RamAt w r fb g ks L) : r ≠ fb ∧ r ≠ g ∧ fb ≠ g := by
  obtain ⟨⟨cap, a1, _⟩, ⟨cs, b1, _⟩, c, _⟩ := h
  refine ⟨?_, ?_, ?_⟩
  · rintro rfl; rw [a1] at b1; simp at b1
  · rintro rfl; rw [a1] at c; simp at c
  · rintro rfl; rw [b1] at c; simp at c

theorem RamAt.lt (h : RamAt w r fb g ks L) : r < w.heap.size ∧ fb < w.heap.size ∧ g < w.heap.size := by
  obtain ⟨⟨cap, a1, _⟩, ⟨cs, b1, _⟩, c, _⟩ := h
  exact ⟨lt_of_heap a1, lt_of_heap b1, lt_of_heap c⟩

theorem RamAt.hcell (h : RamAt w r fb g ks L) : ∃ cap, w.cell? ⟨r, 0, none⟩ = some (.slice (some ⟨fb, 0, none⟩) ks.length cap) := by
  obtain ⟨⟨cap, a1, _⟩, _⟩ := h
  exact ⟨cap, cell_of a1 0 rfl⟩

theorem RamAt.row (h : RamAt w r fb g ks L) {k : Nat} (hk : k < ks.length) : w.cell? ⟨fb, k, none⟩ = some (.slice (some ⟨g, 64 * ks.getD k 0, none⟩) 64 64) := by
  obtain ⟨_, ⟨cs, b1, b2⟩, _⟩ := h
  exact cell_of b1 k (b2 k hk)

theorem RamAt.cell (h : RamAt w r fb g ks L) {j : Nat} (hj : j < L.length) : w.cell? ⟨g, j, none⟩ = some (.int .u8 (L.getD j 0)) :=
  cell_of h.data j (by simp [u8s, List.getElem?_eq_getElem hj, List.getD])

theorem RamAt.frozen (h : RamAt w r fb g ks L) (j : Nat) : w.frozen? ⟨g, j, none⟩ = false := frozen_of h.data j

theorem RamAt.byte (h : RamAt w r fb g ks L) {j : Nat} (hj : j < L.length) : 0 ≤ L.getD j 0 ∧ L.getD j 0 < 256 :=
  h.bytes _ (by simp [List.getD, List.getElem?_eq_getElem hj])

theorem RamAt.pl_lt (h : RamAt w r fb g ks L) {a : Nat} (ha : a < 64 * ks.length) : 64 * ks.getD (a / 64) 0 + 64 ≤ L.length ∧ pl ks a < L.length := by
  have := h.fits (a / 64) (by omega)
  unfold pl
  omega
end

/-- A receiver with so many frames: one that is not there, or that no call made, has none. -/
def Sz (w : World) (v : Value) (n : Nat) : Prop :=
  (v = .pointer none ∧ n = 0) ∨ ∃ r a c, v = .pointer (some ⟨r, 0, none⟩) ∧ w.cell? ⟨r, 0, none⟩ = some (.slice a n c) ∧ n ≤ 512

theorem ret_bool {p q : Bool} (h : p = q) : Ending.returned (.bool p) = .returned (.bool q) := by rw [h]

theorem RamAt.sz {w : World} {r fb g : Nat} {ks : List Nat} {L : List Int} (h : RamAt w r fb g ks L) : Sz w (.pointer (some ⟨r, 0, none⟩)) ks.length := by
  obtain ⟨cap, hc⟩ := h.hcell
  exact .inr ⟨r, _, cap, rfl, hc, h.size.2⟩

theorem Sz.le {w : World} {v : Value} {n : Nat} (h : Sz w v n) : n ≤ 512 := by
  rcases h with ⟨_, rfl⟩ | ⟨_, _, _, _, _, h⟩
  · omega
  · exact h

set_option maxHeartbeats 400000 in
theorem rsize_any {w : World} {v : Value} {n : Nat} (h : Sz w v n) :
    Calls Try.prog 50 #[v] w fun e w' => e = .returned (.int .u32 (64 * (n : Int))) ∧ w = w' := by
  rcases h with ⟨rfl, rfl⟩ | ⟨r, a, c, rfl, hc, hn⟩
  · go_enter Try.func50, Try.ntmps50
    go_wp2
    go_ret
    exact ⟨rfl, rfl⟩
  · have he : (n : Int) * 64 = 64 * (n : Int) := by omega
    go_enter Try.func50, Try.ntmps50
    go_wp2
    go_ret
    exact ⟨rfl, rfl⟩

set_option maxHeartbeats 1000000 in
theorem rwithin_any {w : World} {v : Value} {n : Nat} (h : Sz w v n) (a m al : Nat) (ha : a < 4294967296) (hm : m ≤ 9223372036854775807) (hal : al = 1 ∨ al = 4) :
    Calls Try.prog 78 #[v, .int .u32 a, .int .i64 m, .int .i64 al] w fun e w' => e = .returned (.bool (decide (a % al = 0 ∧ a + m ≤ 64 * n))) ∧ w = w' := by
  have C := Lib.hid (rsize_any h)
  have hn := h.le
  clear h
  have h0 : al ≠ 0 := by omega
  have hr : ((a : Int).tmod (al : Int)) = ((a % al : Nat) : Int) := by rw [Int.tmod_eq_emod_of_nonneg (by omega)]; simp
  have hrl : a % al < 4 := by have := Nat.mod_lt a (show 0 < al by omega); omega
  generalize a % al = q at hr hrl
  by_cases hq : q = 0
  · subst hq
    by_cases h1 : m ≤ 64 * n
    · have h1' : (m : Int) ≤ 64 * (n : Int) := by omega
      clear h1 hrl
      go_enter Try.func78, Try.ntmps78
      go_wp2_with fail
      refine C.out.mono ?_
      rintro e w' ⟨rfl, rfl⟩
      go_wp2_with fail
      refine C.out.mono ?_
      rintro e w' ⟨rfl, rfl⟩
      go_wp2_with fail
      go_ret
      exact ⟨ret_bool (decide_eq_decide.2 (by rw [true_and]; omega)), rfl⟩
    · rw [decide_eq_false (p := 0 = 0 ∧ a + m ≤ 64 * n) (by omega)]
      have h1' : ¬ ((m : Int) ≤ 64 * (n : Int)) := by omega
      clear h1 hrl
      go_enter Try.func78, Try.ntmps78
      go_wp2_with fail
      refine C.out.mono ?_
      rintro e w' ⟨rfl, rfl⟩
      go_wp2_with fail
      go_ret
      exact ⟨rfl, rfl⟩
  · rw [decide_eq_false (p := q = 0 ∧ a + m ≤ 64 * n) (by omega)]
    have hq' : ((q : Int) == 0) = false := by simp [hq]
    clear hq hrl
    go_enter Try.func78, Try.ntmps78
    go_wp2_with fail
    go_ret
    exact ⟨rfl, rfl⟩

theorem size_u8 (w : World) : (Go.sizeOf 5).run Try.prog w = .ok 1 w := by kernel_rfl

set_option maxHeartbeats 400000 in
theorem rat_at {w : World} {r fb g : Nat} {ks : List Nat} {L : List Int} (h : RamAt w r fb g ks L) (a : Nat) (ha : a < 64 * ks.length) :
    Calls Try.prog 79 #[.pointer (some ⟨r, 0, none⟩), .int .u32 a] w fun e w' => e = .returned (.slice (some ⟨g, pl ks a, none⟩) (64 - a % 64) (64 - a % 64)) ∧ w = w' := by
  obtain ⟨cap, hc⟩ := h.hcell
  have hrow := h.row (k := a / 64) (by omega)
  have hs := h.size
  have hd : ((a : Int) / 64) = ((a / 64 : Nat) : Int) := by omega
  have hm : ((a : Int) % 64) = ((a % 64 : Nat) : Int) := by omega
  have hlt : ((a / 64 : Nat) : Int) < (ks.length : Int) := by omega
  have hm4 : a % 64 < 64 := by omega
  have hp : pl ks a = 64 * ks.getD (a / 64) 0 + a % 64 := rfl
  rw [hp]
  clear h hp ha
  generalize ks.getD (a / 64) 0 = f at *
  generalize a / 64 = i at *
  generalize a % 64 = j at *
  have hj : (j : Int) ≤ 64 := by omega
  have hne : ¬ (64 = j) := by omega
  go_enter Try.func79, Try.ntmps79
  go_wp2
  go_ret
  exact ⟨rfl, rfl⟩

/-- The byte at an address. -/
def byteAt (ks : List Nat) (L : List Int) (a : Nat) : Int := if a < 64 * ks.length then L.getD (pl ks a) 0 else 0

end Go.Proofs.Ytpinoejckagjbaa

/- Words and frames of a memory. -/
namespace Go.Proofs.Ytpinoejckagjbaa
open Go.RowKit Go.Mum

/-- Four bytes as a number. -/
def word4 (L : List Int) (p : Nat) : Int := L.getD p 0 + L.getD (p + 1) 0 * 256 + L.getD (p + 2) 0 * 65536 + L.getD (p + 3) 0 * 16777216

set_option maxHeartbeats 400000 in
theorem rword_no {w : World} {v : Value} {n : Nat} (h : Sz w v n) (a : Nat) (ha : a < 4294967296) (hn : ¬ (a % 4 = 0 ∧ a < 64 * n)) :
    Calls Try.prog 49 #[v, .int .u32 a] w fun e w' => e = .returned (.tuple #[.int .u32 0, .bool false]) ∧ w = w' := by
  have C := rwithin_any h a 4 4 ha (by omega) (.inr rfl)
  rw [decide_eq_false (by omega)] at C
  have C := Lib.hid C
  clear h hn
  go_enter Try.func49, Try.ntmps49
  go_wp2_with fail
  refine C.out.mono ?_
  rintro e w' ⟨rfl, rfl⟩
  go_wp2_with fail
  go_ret2
  exact ⟨rfl, rfl⟩

set_option maxHeartbeats 2000000 in
theorem rword_yes {w : World} {r fb g : Nat} {ks : List Nat} {L : List Int} (h : RamAt w r fb g ks L) (a : Nat) (h4 : a % 4 = 0) (ha : a < 64 * ks.length) :
    Calls Try.prog 49 #[.pointer (some ⟨r, 0, none⟩), .int .u32 a] w fun e w' => e = .returned (.tuple #[.int .u32 (word4 L (pl ks a)), .bool true]) ∧ ∃ n, w' = w.drewN n := by
  have hs := h.size
  have C := rwithin_any h.sz a 4 4 (by omega) (by omega) (.inr rfl)
  rw [decide_eq_true (by omega)] at C
  have C := Lib.hid C
  have D := Lib.hid (rat_at h a ha)
  have hp := h.pl_lt ha
  have hp2 : pl ks a = 64 * ks.getD (a / 64) 0 + a % 64 := rfl
  have c0 := h.cell (j := pl ks a) (by omega)
  have c1 := h.cell (j := pl ks a + 1) (by omega)
  have c2 := h.cell (j := pl ks a + 2) (by omega)
  have c3 := h.cell (j := pl ks a + 3) (by omega)
  have b0 := h.byte (j := pl ks a) (by omega)
  have b1 := h.byte (j := pl ks a + 1) (by omega)
  have b2 := h.byte (j := pl ks a + 2) (by omega)
  have b3 := h.byte (j := pl ks a + 3) (by omega)
  have m0 : (0 : Int) < ((64 - a % 64 : Nat) : Int) := by omega
  have m1 : (1 : Int) < ((64 - a % 64 : Nat) : Int) := by omega
  have m2 : (2 : Int) < ((64 - a % 64 : Nat) : Int) := by omega
  have m3 : (3 : Int) < ((64 - a % 64 : Nat) : Int) := by omega
  unfold word4
  clear hp hp2
  generalize pl ks a = p at *
  generalize 64 - a % 64 = q at *
  generalize L.getD p 0 = d0 at *
  generalize L.getD (p + 1) 0 = d1 at *
  generalize L.getD (p + 2) 0 = d2 at *
  generalize L.getD (p + 3) 0 = d3 at *
  have hv : bits BinOp.or IntKind.u32 (bits BinOp.or IntKind.u32 (bits BinOp.or IntKind.u32 d0 (d1 * 256)) (d2 * 65536)) (d3 * 16777216) = d0 + d1 * 256 + d2 * 65536 + d3 * 16777216 := by
    rw [u32_or8 d0 (d1 * 256) (by omega) (by omega) (by omega) (by omega) (by omega), u32_or16 (d0 + d1 * 256) (d2 * 65536) (by omega) (by omega) (by omega) (by omega) (by omega),
      u32_or24 (d0 + d1 * 256 + d2 * 65536) (d3 * 16777216) (by omega) (by omega) (by omega) (by omega) (by omega)]
  clear h ha h4
  go_enter Try.func49, Try.ntmps49
  go_wp2_with fail
  refine C.out.mono ?_
  rintro e w' ⟨rfl, rfl⟩
  go_wp2_with fail
  refine D.out.mono ?_
  rintro e w' ⟨rfl, rfl⟩
  go_wp2_with fail
  go_quiet (fail)
  go_wp2
  go_ret2
  exact ⟨rfl, _, rfl⟩

theorem info_u8 : (Try.prog.info? 5).map (fun i => (i.zero, i.size, i.bytes)) = some (some (.int .u8 0), 1, 1) := by kernel_rfl

theorem empty_u8 (w : World) : (Instr.buildSlice 48 0 #[]).run Try.prog w = .ok (.slice (some ⟨w.heap.size, 0, none⟩) 0 0) (w.alloc (.cells #[] 5)) := by
  obtain ⟨i0, hi, hz0, hz1, hz2⟩ := info_parts info_u8
  simp [Instr.buildSlice, run_underlying Try.underlying48, sizeOf, typeInfo, hi, Instr.fill, newRow, show Array.range 0 = #[] from rfl]

/-- The bytes of a frame. -/
def frameOf (ks : List Nat) (L : List Int) (k : Nat) : List Int := (L.drop (64 * ks.getD k 0)).take 64

/-- What a call that hands back a row of its own leaves. -/
def OwnPost (M : List Int) (w : World) (e : Ending) (w' : World) : Prop := ∃ v, e = .returned v ∧ Own w' w.heap.size 5 v M ∧ Keep [] w w'

theorem RamAt.frame {w : World} {r fb g : Nat} {ks : List Nat} {L : List Int} (h : RamAt w r fb g ks L) {k : Nat} (hk : k < ks.length) :
    Row w (some ⟨g, 64 * ks.getD k 0, none⟩) 64 (frameOf ks L k) ∧ (frameOf ks L k).length = 64 := by
  have hf := h.fits k hk
  have hl : (frameOf ks L k).length = 64 := by unfold frameOf; rw [List.length_take, List.length_drop]; omega
  refine ⟨⟨fun x hx => h.bytes x (List.mem_of_mem_drop (List.mem_of_mem_take hx)), ⟨by omega, by unfold maxLen; omega⟩, .inr (.inr ⟨g, _, rfl, fun i hi => ?_⟩)⟩, hl⟩
  rw [hl] at hi
  rw [h.cell (by omega)]
  congr 2
  unfold frameOf
  simp [List.getD, List.getElem?_take_of_lt hi]

set_option maxHeartbeats 1000000 in
theorem rframe_no {w : World} {v : Value} {n : Nat} (h : Sz w v n) (k : Int) (h1 : -9223372036854775808 ≤ k) (h2 : k ≤ 9223372036854775807) (hk : k < 0 ∨ (n : Int) ≤ k) :
    Calls Try.prog 19 #[v, .int .i64 k] w fun e w' => e = .returned (.slice none 0 0) ∧ w = w' := by
  have C := Lib.hid (rsize_any h)
  have hn := h.le
  have hd : 64 * (n : Int) / 64 = (n : Int) := by omega
  clear h
  by_cases h0 : k < 0
  · clear hk
    go_enter Try.func19, Try.ntmps19
    go_wp2_with fail
    go_ret
    exact ⟨rfl, rfl⟩
  · have hk' : (n : Int) ≤ k := by omega
    clear hk
    go_enter Try.func19, Try.ntmps19
    go_wp2_with fail
    refine C.out.mono ?_
    rintro e w' ⟨rfl, rfl⟩
    go_wp2_with fail
    go_ret
    exact ⟨rfl, rfl⟩

set_option maxHeartbeats 1000000 in
theorem rframe_yes {w : World} {r fb g : Nat} {ks : List Nat} {L : List Int} (h : RamAt w r fb g ks L) (k : Nat) (hk : k < ks.length) :
    Calls Try.prog 19 #[.pointer (some ⟨r, 0, none⟩), .int .i64 k] w (OwnPost (frameOf ks L k) w) := by
  have C := Lib.hid (rsize_any h.sz)
  have hn := h.size
  obtain ⟨cap, hc⟩ := h.hcell
  have hrow := h.row hk
  have HF := Lib.hid (h.frame hk)
  have hd : 64 * (ks.length : Int) / 64 = (ks.length : Int) := by omega
  have he := empty_u8
  have hc' := ((Keep.refl [] w).alloc (.cells #[] 5)).cell hc (by simp)
  have hrow' := ((Keep.refl [] w).alloc (.cells #[] 5)).cell hrow (by simp)
  clear h
  generalize frameOf ks L k = M at *
  generalize ks.getD k 0 = f at *
  go_enter Try.func19, Try.ntmps19
  go_wp2_with fail
  refine C.out.mono ?_
  rintro e w' ⟨rfl, rfl⟩
  go_wp2_with (at_builtin; refine wpList_append_row rfl _ _ 48 rfl w.heap.size 5 Try.underlying48 info_u8 (.slice (some ⟨w.heap.size, 0, none⟩) 0 0) [] M rfl (Own.empty (heap_alloc_at _ rfl) (Nat.le_refl _)) (some ⟨g, 64 * f, none⟩) 64 64 HF.out.2.symm rfl (HF.out.1.keep0 ((Keep.refl [] w).alloc _)) (by rw [HF.out.2]; simp) (by simp) ?_; intro v1 w1 ho hg; have HG : Hid (OwnPost M w (.returned v1) w1) := Lib.hid ⟨v1, rfl, by simpa using ho, ((Keep.refl [] w).alloc _).grown hg (by simp [Value.ownBlock])⟩; clear ho hg)
  go_ret
  exact HG.out
end Go.Proofs.Ytpinoejckagjbaa

/- Bytes laid into a memory's block: laws on lists, and the law of 'copy' into such a block. -/
namespace Go.Proofs.Ytpinoejckagjbaa
open Go.RowKit Go.Mum

/-- Bytes laid at an address, one behind the other. -/
def putAt (ks : List Nat) (L : List Int) (a : Nat) : List Int → List Int
  | [] => L
  | x :: M => putAt ks (L.set (pl ks a) x) (a + 1) M

theorem putAt_append (ks : List Nat) : ∀ (M N L : List Int) (a : Nat), putAt ks L a (M ++ N) = putAt ks (putAt ks L a M) (a + M.length) N
  | [], N, L, a => by simp [putAt]
  | x :: M, N, L, a => by
    rw [List.cons_append, putAt, putAt, putAt_append ks M N, List.length_cons, show a + 1 + M.length = a + (M.length + 1) by omega]

theorem putAt_length (ks : List Nat) : ∀ (M L : List Int) (a : Nat), (putAt ks L a M).length = L.length
  | [], L, a => rfl
  | x :: M, L, a => by rw [putAt, putAt_length ks M, List.length_set]

theorem putAt_bytes (ks : List Nat) : ∀ (M L : List Int) (a : Nat), IsBytes L → IsBytes M → IsBytes (putAt ks L a M)
  | [], L, a, hL, _ => hL
  | x :: M, L, a, hL, hM => by
    rw [putAt]
    refine putAt_bytes ks M _ _ ?_ (fun y hy => hM y (by simp [hy]))
    intro y hy
    rcases List.mem_or_eq_of_mem_set hy with hy | rfl
    · exact hL y hy
    · exact hM y (by simp)

theorem splice_nil (L : List Int) (p : Nat) : splice L p [] = L := by simp [splice]

theorem splice_cons (L : List Int) (p : Nat) (x : Int) (N : List Int) (h : p < L.length) : splice (L.set p x) (p + 1) N = splice L p (x :: N) := by
  unfold splice
  rw [List.length_cons, List.take_set, List.drop_set, if_pos (by omega), show p + 1 + N.length = p + (N.length + 1) by omega]
  have : (List.take (p + 1) L).set p x = List.take p L ++ [x] := by
    rw [List.take_add_one, List.set_append_right _ _ (by simp; omega)]
    simp [List.getElem?_eq_getElem h, Nat.min_eq_left (Nat.le_of_lt h)]
  rw [this]
  simp

/-- Within a frame they lie side by side. -/
theorem putAt_frame (ks : List Nat) : ∀ (N L : List Int) (a : Nat), a % 64 + N.length ≤ 64 → pl ks a + N.length ≤ L.length → putAt ks L a N = splice L (pl ks a) N
  | [], L, a, _, _ => by rw [splice_nil]; rfl
  | x :: N, L, a, h, hl => by
    rw [List.length_cons] at h hl
    rw [putAt, ← splice_cons L _ x N (by omega)]
    by_cases h0 : N = []
    · subst h0; rw [splice_nil]; rfl
    · have hp : 0 < N.length := List.length_pos_iff.2 h0
      have e : pl ks (a + 1) = pl ks a + 1 := by unfold pl; rw [show (a + 1) / 64 = a / 64 by omega]; omega
      rw [putAt_frame ks N _ (a + 1) (by omega) (by rw [e, List.length_set]; omega), e]

theorem u8s_splice (L : List Int) (p : Nat) (N : List Int) : u8s (splice L p N) = splice (u8s L) p (u8s N) := by
  simp [u8s, splice, List.map_take, List.map_drop]

theorem length_splice' (L : List Int) (p : Nat) (N : List Int) (h : p + N.length ≤ L.length) : (splice L p N).length = L.length := length_splice L p N h

theorem splice_bytes {L : List Int} {p : Nat} {N : List Int} (hL : IsBytes L) (hN : IsBytes N) : IsBytes (splice L p N) := by
  intro x hx
  unfold splice at hx
  rcases List.mem_append.1 hx with h | h
  · exact hL x (List.mem_of_mem_take h)
  · rcases List.mem_append.1 h with h | h
    · exact hN x h
    · exact hL x (List.mem_of_mem_drop h)

theorem keep_row {l : List Nat} {w x : World} (h : Keep l w x) {g : Nat} (hg : g ∈ l ∨ w.heap.size ≤ g) (cs : Array Value) : Keep l w (x.setRow g cs) :=
  ⟨h.os, h.tape, h.output, by simpa using h.size, fun k hk hn => by
    rw [setRow_other x g k cs (by rintro rfl; rcases hg with hg | hg; exact hn hg; omega)]
    exact h.block k hk hn⟩

section
variable {P : Program} {w : World} {ops : Array Oper} {rest : List Oper} {o : Oper} {act : Act} {Q : Exit → Act → World → Prop}

/-- 'copy(..)' of bytes into a block that is known whole. -/
theorem wpList_copy_row (hgd : o.guard = none) (d s : Operand) (dT sT : TypeId) (ho : o.op = .call { callee := .builtin .copy, args := #[d, s], argTypes := #[dT, sT] })
    (e : TypeId) (hu : P.underlying dT = some (.slice e)) (hsz : (P.info? e).map (·.size) = some 1) (g p dl dc m sc : Nat) (src : Option Addr)
    (hd : act.eval d = .slice (some ⟨g, p, none⟩) dl dc) (hs : act.eval s = .slice src m sc) (M : List Int) (hm : m = M.length) (hrow : Row w src sc M) (L : List Int) (t : TypeId)
    (hg : w.heap[g]? = some (.cells (u8s L).toArray t (0, 0))) (hfit : p + dl ≤ L.length) (q : Nat) (hq : q = (M.take dl).length)
    (h : ∀ w', w'.heap[g]? = some (.cells (u8s (splice L p (M.take dl))).toArray t (0, 0)) → Keep [g] w w' → wpList P ops Q rest (act.put o.dst (goInt (q : Nat))) w') :
    wpList P ops Q (o :: rest) act w := by
  subst hm
  subst hq
  by_cases h0 : (M.take dl) = []
  · have hz : M.length.min dl = 0 := by
      have := congrArg List.length h0
      rw [List.length_take, List.length_nil, Nat.min_comm] at this
      exact this
    refine wpList_copy_nothing hgd d s dT sT ho e hu hsz _ _ dl dc _ sc hd hs hz ?_
    have := h w (by rw [h0, splice_nil]; exact hg) (Keep.refl _ _)
    rw [h0] at this
    exact this
  · have hpos : 0 < (M.take dl).length := List.length_pos_iff.2 h0
    obtain ⟨b, off, rfl⟩ := hrow.some_of (by rw [List.length_take] at hpos; omega)
    have hcell : ∀ i, i < M.length → w.cell? ⟨b, off + i, none⟩ = some (.int .u8 (M.getD i 0)) := by
      rcases hrow.at' with ⟨hh, _⟩ | ⟨rfl, _⟩ | ⟨b', off', e', hc⟩
      · cases hh
      · simp at hpos
      · cases e'; exact hc
    have hlen : (u8s (M.take dl)).length = (M.take dl).length := u8s_length _
    refine wpList_copy_own hgd d s dT sT ho e hu hsz g p dl dc ⟨b, off, none⟩ M.length sc hd hs (u8s L).toArray t hg (u8s (M.take dl)) (by rw [hlen, List.length_take, Nat.min_comm]) ?_ ?_ ?_ ?_
    · intro j v hv
      have hj : j < (M.take dl).length := by
        rw [← hlen]
        exact (List.getElem?_eq_some_iff.1 hv).1
      rw [Addr.add_lit, hcell j (by rw [List.length_take] at hj; omega), ← hv]
      simp only [u8s, List.getElem?_map]
      rw [List.length_take] at hj
      rw [List.getElem?_take_of_lt (by omega), List.getElem?_eq_getElem (show j < M.length by omega)]
      simp [List.getD, List.getElem?_eq_getElem (show j < M.length by omega)]
    · rw [hlen, List.length_take]; simp [u8s]; omega
    · intro v hv
      obtain ⟨z, _, rfl⟩ := List.mem_map.1 hv
      simp [Value.oneCell']
    · rw [hlen]
      have he : ((u8s L).toArray.toList.take p ++ (u8s (M.take dl) ++ (u8s L).toArray.toList.drop (p + (M.take dl).length))) = u8s (splice L p (M.take dl)) := by
        rw [u8s_splice, splice, hlen]
      rw [he]
      exact h _ (setRow_heap w g _ _ t _ hg) (keep_row (Keep.refl _ _) (.inl (by simp)) _)
end

theorem RamAt.put {w x : World} {r fb g : Nat} {ks : List Nat} {L L' : List Int} (h : RamAt w r fb g ks L) (hk : Keep [g] w x) (hx : x.heap[g]? = some (.cells (u8s L').toArray 5 (0, 0))) (hl : L'.length = L.length) (hb : IsBytes L') : RamAt x r fb g ks L' := by
  have hne := h.ne
  obtain ⟨⟨cap, a1, a2⟩, ⟨cs, b1, b2⟩, c, d1, d2, d3⟩ := h
  exact ⟨⟨cap, hk.heap a1 (by simpa using hne.2.1), a2⟩, ⟨cs, hk.heap b1 (by simpa using hne.2.2), b2⟩, hx, hb, by rw [hl]; exact d2, d3⟩
end Go.Proofs.Ytpinoejckagjbaa
