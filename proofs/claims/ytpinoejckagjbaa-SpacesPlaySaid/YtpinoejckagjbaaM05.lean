/- Contracts of the functions that the law reaches, walked, and the plain laws on them (several texts in one). -/
import Derived.Outline
import Derived.Test.YtpinoejckagjbaaM04

/- Where tables lead: what is reckoned with bits. -/
namespace Go.Proofs.Ytpinoejckagjbaa
open Go.RowKit Go.Mum

/-- A memory as tables are read in it: 'rd a' is the word at a, if there is one. -/
structure Mem (w : World) (v : Value) (n : Nat) (rd : Nat → Option Nat) : Prop where
  word : ∀ x, Keep [] w x → ∀ a : Nat, a < 4294967296 → Calls Try.prog 49 #[v, .int .u32 a] x (RdPost (.int .u32 (((rd a).getD 0 : Nat) : Int)) (rd a).isSome x)
  size : ∀ x, Keep [] w x → Calls Try.prog 50 #[v] x fun e w' => e = .returned (.int .u32 (64 * (n : Int))) ∧ x = w'
  lt : ∀ a z, rd a = some z → z < 4294967296
  n512 : n ≤ 512

theorem Mem.keep0 {w x : World} {v : Value} {n : Nat} {rd : Nat → Option Nat} (h : Mem w v n rd) (hk : Keep [] w x) : Mem x v n rd :=
  ⟨fun y hy => h.word y (hk.trans hy), fun y hy => h.size y (hk.trans hy), h.lt, h.n512⟩

/-- The word at an address of n frames. -/
def rdOf (n : Nat) (L : List Int) (a : Nat) : Option Nat := if layB n a 4 4 = true then some (word4 L a).toNat else none

theorem word4_lt {L : List Int} (hL : IsBytes L) {p : Nat} (h : p + 3 < L.length) : 0 ≤ word4 L p ∧ word4 L p < 4294967296 := by
  have b0 := u8_byte hL (j := p) (by omega)
  have b1 := u8_byte hL (j := p + 1) (by omega)
  have b2 := u8_byte hL (j := p + 2) (by omega)
  have b3 := u8_byte hL (j := p + 3) (by omega)
  unfold word4
  omega

theorem rdOf_lt {n : Nat} {L : List Int} (hL : IsBytes L) (hl : L.length = 64 * n) {a z : Nat} (h : rdOf n L a = some z) : z < 4294967296 := by
  unfold rdOf at h
  split at h
  · rename_i hb
    have := of_decide_eq_true hb
    have := word4_lt hL (p := a) (by omega)
    simp at h
    omega
  · cases h

theorem wordAt_rd {n : Nat} {L : List Int} (hL : IsBytes L) (hl : L.length = 64 * n) (a : Nat) : wordAt n L a = (((rdOf n L a).getD 0 : Nat) : Int) ∧ layB n a 4 4 = (rdOf n L a).isSome := by
  unfold wordAt rdOf
  by_cases hb : layB n a 4 4 = true
  · have := of_decide_eq_true hb
    have := word4_lt hL (p := a) (by omega)
    rw [if_pos hb, if_pos hb, hb]
    simp
    omega
  · rw [if_neg hb, if_neg hb]
    simp [hb]

theorem Both.mem {w : World} {r fb g q n : Nat} {L : List Int} (h : Both w r fb g q n L) : Mem w (.pointer (some ⟨r, 0, none⟩)) n (rdOf n L) := by
  refine ⟨fun x hx a ha => ?_, fun x hx => ?_, fun a z hz => rdOf_lt h.ref.2.1 h.len hz, by have := h.n1; omega⟩
  · obtain ⟨e1, e2⟩ := wordAt_rd h.ref.2.1 h.len a
    have := bword_r (h.keep0 hx) a ha
    rw [e1, e2] at this
    exact this
  · have := rsize_any (h.ram.keep0 hx).sz
    rw [List.length_range] at this
    exact this

def dirAt (root va : Nat) : Nat := (root / 64 * 64 + 4 * (va / 1024)) % 4294967296
def tabAt (x va : Nat) : Nat := x / 64 * 64 + 4 * (va / 64 % 16)
def endAt (y va : Nat) : Nat := y / 64 * 64 + va % 64

/-- Where a virtual address leads: bits, address, the table's entry, and the frames of directory, table and page. -/
def lookF (rd : Nat → Option Nat) (n root dirs va : Nat) : Option (Nat × Nat × Nat × Nat × Nat × Nat) :=
  if dirs ≤ va / 1024 then none else
  match rd (dirAt root va) with
  | none => none
  | some x => if x % 2 = 0 then none else
    match rd (tabAt x va) with
    | none => none
    | some y => if y % 2 = 0 then none else if 64 * n ≤ endAt y va then none else
      some (refBits x y, endAt y va, tabAt x va, dirAt root va / 64, tabAt x va / 64, endAt y va / 64)

def wayV : Option (Nat × Nat × Nat × Nat × Nat × Nat) → Value
  | none => .agg #[.int .u32 0, .int .u32 0, .int .u32 0, .int .i64 0, .int .i64 0, .int .i64 0]
  | some (b, a, e, d, t, p) => .agg #[.int .u32 b, .int .u32 a, .int .u32 e, .int .i64 d, .int .i64 t, .int .i64 p]

def LookPost (q : Option (Nat × Nat × Nat × Nat × Nat × Nat)) (w : World) (e : Ending) (w' : World) : Prop := e = .returned (.tuple #[wayV q, .bool q.isSome]) ∧ Keep [] w w'

set_option maxRecDepth 100000 in
set_option maxHeartbeats 1000000 in
theorem both_at {w : World} {b : Nat} (x y : Nat) (hx : x < 4294967296) (hy : y < 4294967296) (c0 : w.cell? ⟨b, 0, none⟩ = some (.int .u32 x)) (c1 : w.cell? ⟨b, 1, none⟩ = some (.int .u32 y)) :
    Calls Try.prog 51 #[.slice (some ⟨b, 0, none⟩) 2 2] w fun e w' => e = .returned (.int .u32 (bothN x y : Nat)) ∧ w = w' := by
  have e1 : bits .or .u32 (x : Int) 8 = ((x ||| 8 : Nat) : Int) := or_u32 x 8 hx (by decide)
  have l1 : x ||| 8 < 4294967296 := Nat.or_lt_two_pow (n := 32) hx (by decide)
  have e2 : bits .and .u32 7 ((x ||| 8 : Nat) : Int) = ((7 &&& (x ||| 8) : Nat) : Int) := and_u32 7 (x ||| 8) (by decide) l1
  have l2 : 7 &&& (x ||| 8) < 4294967296 := Nat.lt_of_le_of_lt Nat.and_le_left (by decide)
  have e3 : bits .and .u32 (x : Int) 8 = ((x &&& 8 : Nat) : Int) := and_u32 x 8 hx (by decide)
  have l3 : x &&& 8 < 4294967296 := Nat.lt_of_le_of_lt Nat.and_le_right (by decide)
  have e4 := or_u32 _ _ l2 l3
  have l4 : 7 &&& (x ||| 8) ||| x &&& 8 < 4294967296 := Nat.or_lt_two_pow (n := 32) l2 l3
  have f1 : bits .or .u32 (y : Int) 8 = ((y ||| 8 : Nat) : Int) := or_u32 y 8 hy (by decide)
  have m1 : y ||| 8 < 4294967296 := Nat.or_lt_two_pow (n := 32) hy (by decide)
  have f2 := and_u32 _ (y ||| 8) l4 m1
  have m2 : (7 &&& (x ||| 8) ||| x &&& 8) &&& (y ||| 8) < 4294967296 := Nat.lt_of_le_of_lt Nat.and_le_left l4
  have f3 : bits .and .u32 (y : Int) 8 = ((y &&& 8 : Nat) : Int) := and_u32 y 8 hy (by decide)
  have m3 : y &&& 8 < 4294967296 := Nat.lt_of_le_of_lt Nat.and_le_right (by decide)
  have f4 := or_u32 _ _ m2 m3
  rw [show (((7 &&& (x ||| 8) ||| x &&& 8) &&& (y ||| 8) ||| y &&& 8 : Nat)) = bothN x y from rfl] at f4
  have hB := Lib.hid (bothN_lt x y)
  generalize bothN x y = B at f4
  generalize y &&& 8 = y8 at f3 f4
  generalize (7 &&& (x ||| 8) ||| x &&& 8) &&& (y ||| 8) = z2 at f2 f4
  generalize y ||| 8 = yo at f1 f2
  generalize 7 &&& (x ||| 8) ||| x &&& 8 = z1 at e4 f2
  generalize 7 &&& (x ||| 8) = z0 at e2 e4
  generalize x &&& 8 = x8 at e3 e4
  generalize x ||| 8 = xo at e1 e2
  clear l1 l2 l3 l4 m1 m2 m3
  go_enter Try.func51, Try.ntmps51
  go_wp2_with fail
  refine wp_loop_rounds 3 ?_
  rw [rounds_succ]
  go_wp2_with fail
  rw [rounds_succ]
  go_wp2_with fail
  rw [rounds_succ]
  go_wp2_with fail
  go_outline
  go_ret
  exact ⟨rfl, rfl⟩
end Go.Proofs.Ytpinoejckagjbaa
