/- Contracts of the functions that the law reaches, walked, and the plain laws on them (several texts in one). -/
import Derived.Outline
import Derived.Laws.BitsLemmas
import Derived.Lib.EndianBits
import Derived.Deep.DeepCutAuto
import Derived.Test.YtnpnedimgfbnhaaM04
import Derived.Test.YtnpnedimgfbnhaaM01

/- The pair, call by call: both lay alike. -/
namespace Go.Proofs.Ytnpnedimgfbnhaa
open Go.RowKit Go.Mum

/-- The bytes behind a call that lays M at a, if it may. -/
def laid (n : Nat) (L : List Int) (a : Nat) (M : List Int) (al : Nat) : List Int := if layB n a M.length al = true then splice L a M else L

theorem laid_length {n a al : Nat} {L M : List Int} (hl : L.length = 64 * n) : (laid n L a M al).length = L.length := by
  unfold laid
  split
  · rename_i h
    have := of_decide_eq_true h
    rw [splice_len]
    omega
  · rfl

/-- What a memory's call that lays bytes leaves. -/
def RPost (r fb g n : Nat) (L : List Int) (a : Nat) (M : List Int) (al : Nat) (w : World) (e : Ending) (w' : World) : Prop :=
  e = .returned (.bool (layB n a M.length al)) ∧ RamAt w' r fb g (List.range n) (laid n L a M al) ∧ Keep [g] w w'

theorem rpost_of {r fb g n a al : Nat} {L M : List Int} {w w' : World} {e : Ending} (hl : L.length = 64 * n) (h : LayPost r fb g (List.range n) L a M al w e w') : RPost r fb g n L a M al w e w' := by
  obtain ⟨h1, h2, h3⟩ := h
  rw [List.length_range] at h1 h2
  refine ⟨h1, ?_, h3⟩
  unfold laid
  by_cases hb : layB n a M.length al = true
  · rw [if_pos hb] at h2 ⊢
    have := of_decide_eq_true hb
    rw [putAt_range n M L a this.2 hl] at h2
    exact h2
  · rw [if_neg hb] at h2 ⊢
    exact h2

section
variable {w : World} {r fb g q n : Nat} {L : List Int}

theorem bsetbyte_r (h : Both w r fb g q n L) (a : Nat) (ha : a < 4294967296) (z : Int) (hz : 0 ≤ z ∧ z < 256) :
    Calls Try.prog 20 #[.pointer (some ⟨r, 0, none⟩), .int .u32 a, .int .u8 z] w (RPost r fb g n L a [z] 1 w) :=
  (rsetbyte_any h.ram a ha z hz).mono fun _ _ => rpost_of h.len

theorem bfill_r (h : Both w r fb g q n L) (a : Nat) (ha : a < 4294967296) {src : Option Addr} {c : Nat} {M : List Int} (hM : Row w src c M) (hsrc : M = [] ∨ ∀ b, src = some b → b.block ≠ g) (hl : M.length ≤ 9223372036854775807) :
    Calls Try.prog 27 #[.pointer (some ⟨r, 0, none⟩), .int .u32 a, .slice src M.length c] w (RPost r fb g n L a M 1 w) :=
  (rfill_all h.ram a ha hM hsrc hl).mono fun _ _ => rpost_of h.len

/-- The document's memory alone: as much as a call needs of it. -/
structure RefN (w : World) (q n : Nat) (L : List Int) : Prop where
  ref : RefAt w (some ⟨q, 0, none⟩) L
  len : L.length = 64 * n

theorem Both.refN (h : Both w r fb g q n L) : RefN w q n L := ⟨h.ref, h.len⟩

/-- What the document's call leaves. -/
def DPost (q n : Nat) (L : List Int) (a : Nat) (M : List Int) (al : Nat) (w : World) (e : Ending) (w' : World) : Prop :=
  e = .returned (.bool (layB n a M.length al)) ∧ RefAt w' (some ⟨q, 0, none⟩) (laid n L a M al) ∧ Keep [q] w w'

theorem dpost_yes {a al : Nat} {M : List Int} {w' : World} {e : Ending} (hy : layB n a M.length al = true) (h : FPost (some ⟨q, 0, none⟩) (splice L a M) true w e w') : DPost q n L a M al w e w' := by
  obtain ⟨h1, h2, l, h3, h4⟩ := h
  refine ⟨by rw [hy]; exact h1, by unfold laid; rw [if_pos hy]; exact h2, h4.weaken fun k hk _ => ?_⟩
  obtain ⟨_, e⟩ := h3 k hk
  cases e
  simp

theorem dpost_no {a al : Nat} {M : List Int} {w' : World} {e : Ending} (hy : layB n a M.length al = false) (h : FPost (some ⟨q, 0, none⟩) L false w e w') : DPost q n L a M al w e w' := by
  obtain ⟨h1, h2, l, h3, h4⟩ := h
  refine ⟨by rw [hy]; exact h1, by unfold laid; rw [if_neg (by rw [hy]; simp)]; exact h2, h4.weaken fun k hk _ => ?_⟩
  obtain ⟨_, e⟩ := h3 k hk
  cases e
  simp

theorem splice_one (L : List Int) (a : Nat) (z : Int) (h : a < L.length) : splice L a [z] = L.set a z := by
  rw [← splice_cons L a z [] h, splice_nil]

set_option maxRecDepth 100000 in
set_option maxHeartbeats 1000000 in
theorem ffill_empty {a : Option Addr} (h : RefAt w a L) (i : Nat) {src : Option Addr} {c : Nat} (hi : i ≤ L.length) :
    Calls Try.prog 25 #[.agg #[.slice a L.length L.length], .int .u32 i, .slice src 0 c] w (FPost a (splice L i []) true w) := by
  have hl := h.2.2
  have hli : ¬ ((L.length : Int) < (i : Int)) := by omega
  have hli2 : (0 : Int) ≤ (L.length : Int) - (i : Int) := by omega
  have HF : Hid (∀ o, FPost a (splice L i []) true w (.returned (.bool true)) (w.alloc o)) := Lib.hid fun o => ⟨rfl, by rw [splice_nil]; exact h.keep0 ((Keep.refl _ _).alloc _), [], by simp, (Keep.refl _ _).alloc _⟩
  clear h
  go_enter Try.func25, Try.ntmps25
  go_wp2_with fail
  refine wp_loop_rounds 1 ?_
  rw [rounds_succ]
  go_wp2_with fail
  go_ret
  exact HF.out _

theorem bfill_d (h : RefN w q n L) (a : Nat) (ha : a < 4294967296) {src : Option Addr} {c : Nat} {M : List Int} (hM : Row w src c M) (hsrc : M = [] ∨ ∀ b, src = some b → b.block ≠ q) (hm : M.length ≤ 9223372036854775807) :
    Calls Try.prog 25 #[.agg #[.slice (some ⟨q, 0, none⟩) (64 * n) (64 * n)], .int .u32 a, .slice src M.length c] w (DPost q n L a M 1 w) := by
  have hl := h.len
  by_cases hy : a + M.length ≤ 64 * n
  · rcases hsrc with rfl | hs
    · have C := ffill_empty h.ref a (src := src) (c := c) (by simp at hy; omega)
      rw [hl] at C
      exact C.mono fun _ _ => dpost_yes (layB_yes (by omega))
    · have C := ffill_yes h.ref a hM (by
        intro b q' hb hq
        cases hq
        exact hs b hb) (by omega)
      rw [hl] at C
      exact C.mono fun _ _ => dpost_yes (layB_yes (by omega))
  · have C := ffill_no h.ref a ha (src := src) (c := c) hm (by omega)
    rw [hl] at C
    exact C.mono fun _ _ => dpost_no (layB_no (by omega))
end
end Go.Proofs.Ytnpnedimgfbnhaa

/- Have both memories the same bytes? -/
namespace Go.Proofs.Ytnpnedimgfbnhaa
open Go.RowKit Go.Mum

/-- How bytes read as a string. -/
def Str (x : World) (a : Option Addr) (k c : Nat) (M : List Int) : Prop := (convert 38 9 (.slice a k c)).run Try.prog x = .ok (.string (strOfNums M)) x
theorem str_of {x : World} {a : Option Addr} {k c : Nat} {M : List Int} (h : Row x a c M) (hk : k = M.length) : Str x a k c M := run_string (P := Try.prog) Try.underlying38 Try.underlying5 h k hk _ Try.underlying9

theorem frameOf_range {n k : Nat} (L : List Int) (hk : k < n) : frameOf (List.range n) L k = (L.drop (64 * k)).take 64 := by
  unfold frameOf
  simp [List.getD, List.getElem?_range hk]

/-- The answer is true, and nothing that was there has been turned. -/
def True1 (w : World) (e : Ending) (w' : World) : Prop := e = .returned (.bool true) ∧ Keep [] w w'

end Go.Proofs.Ytnpnedimgfbnhaa

/- The pair, call by call: both read alike. -/
namespace Go.Proofs.Ytnpnedimgfbnhaa
open Go.RowKit Go.Mum

/-- The word at an address, 0 where there is none. -/
def wordAt (n : Nat) (L : List Int) (a : Nat) : Int := if layB n a 4 4 = true then word4 L a else 0

section
variable {w : World} {r fb g q n : Nat} {L : List Int}

def RdPost (v : Value) (ok : Bool) (w : World) (e : Ending) (w' : World) : Prop := e = .returned (.tuple #[v, .bool ok]) ∧ Keep [] w w'

theorem bbyte_d (h : RefN w q n L) (a : Nat) (ha : a < 4294967296) :
    Calls Try.prog 50 #[.agg #[.slice (some ⟨q, 0, none⟩) (64 * n) (64 * n)], .int .u32 a] w (RdPost (.int .u8 (byteAt (List.range n) L a)) (layB n a 1 1) w) := by
  have hl := h.len
  unfold byteAt
  rw [List.length_range]
  by_cases hy : a < 64 * n
  · have C := fbyte_yes h.ref a (by omega)
    rw [hl] at C
    rw [if_pos hy, pl_range hy, layB_yes (by omega)]
    exact C
  · have C := fbyte_no h.ref a (by omega) ha
    rw [hl] at C
    rw [if_neg hy, layB_no (by omega)]
    exact C

theorem bword_r (h : Both w r fb g q n L) (a : Nat) (ha : a < 4294967296) :
    Calls Try.prog 37 #[.pointer (some ⟨r, 0, none⟩), .int .u32 a] w (RdPost (.int .u32 (wordAt n L a)) (layB n a 4 4) w) := by
  unfold wordAt
  by_cases hy : a % 4 = 0 ∧ a < 64 * n
  · have hb : layB n a 4 4 = true := layB_yes (by omega)
    rw [if_pos hb, hb]
    refine (rword_yes h.ram a hy.1 (by rw [List.length_range]; exact hy.2)).mono ?_
    rintro e w' ⟨rfl, m, rfl⟩
    exact ⟨by rw [pl_range hy.2], (Keep.refl _ _).drewN _⟩
  · have hb : layB n a 4 4 = false := layB_no (by omega)
    rw [if_neg (by rw [hb]; simp), hb]
    refine (rword_no h.ram.sz a ha (by rw [List.length_range]; exact hy)).mono ?_
    rintro e w' ⟨rfl, rfl⟩
    exact ⟨rfl, Keep.refl _ _⟩

theorem bword_d (h : RefN w q n L) (a : Nat) (ha : a < 4294967296) :
    Calls Try.prog 52 #[.agg #[.slice (some ⟨q, 0, none⟩) (64 * n) (64 * n)], .int .u32 a] w (RdPost (.int .u32 (wordAt n L a)) (layB n a 4 4) w) := by
  have hl := h.len
  unfold wordAt
  by_cases hy : a % 4 = 0 ∧ a < 64 * n
  · have hb : layB n a 4 4 = true := layB_yes (by omega)
    rw [if_pos hb, hb]
    have C := fword_yes h.ref a hy.1 (by omega) (by omega)
    rw [hl] at C
    exact C
  · have hb : layB n a 4 4 = false := layB_no (by omega)
    rw [if_neg (by rw [hb]; simp), hb]
    have C := fword_no h.ref a ha (by omega)
    rw [hl] at C
    exact C

/-- The bytes of a frame, none where there is none. -/
def frameAt (n : Nat) (L : List Int) (k : Int) : List Int := if 0 ≤ k ∧ k < n then (L.drop (64 * k.toNat)).take 64 else []

end
end Go.Proofs.Ytnpnedimgfbnhaa

/- Bits of entries: laws on numbers alone. -/
namespace Go.Mum
open Go.RowKit

theorem and_u32 (a b : Nat) (ha : a < 4294967296) (hb : b < 4294967296) : bits .and .u32 (a : Int) (b : Int) = ((a &&& b : Nat) : Int) := (bits_nat .u32 32 (by decide) wraps_u32 a b ha hb).1
theorem or_u32 (a b : Nat) (ha : a < 4294967296) (hb : b < 4294967296) : bits .or .u32 (a : Int) (b : Int) = ((a ||| b : Nat) : Int) := (bits_nat .u32 32 (by decide) wraps_u32 a b ha hb).2

/-- 'a &^ 63'. -/
theorem andNot63 (a : Nat) (ha : a < 4294967296) : bits .andNot .u32 (a : Int) 63 = ((a / 64 * 64 : Nat) : Int) := by
  have h1 : (BitVec.ofInt 32 (a : Int)).toNat = a := by
    rw [BitVec.ofInt_natCast, BitVec.toNat_ofNat]; exact Nat.mod_eq_of_lt (by omega)
  show IntKind.u32.wrap ((BitVec.ofInt 32 (a : Int) &&& ~~~BitVec.ofInt 32 63).toNat : Int) = _
  have e : (BitVec.ofInt 32 (a : Int) &&& ~~~BitVec.ofInt 32 63).toNat = a / 64 * 64 := by
    apply Nat.eq_of_testBit_eq
    intro i
    rw [BitVec.toNat_and, Nat.testBit_and, h1, BitVec.testBit_toNat, BitVec.getLsbD_not, show a / 64 * 64 = 2 ^ 6 * (a / 2 ^ 6) by rw [Nat.mul_comm], Nat.testBit_two_pow_mul, Nat.testBit_div_two_pow]
    by_cases hi : i < 6
    · have : i = 0 ∨ i = 1 ∨ i = 2 ∨ i = 3 ∨ i = 4 ∨ i = 5 := by omega
      rcases this with rfl | rfl | rfl | rfl | rfl | rfl <;> simp
    · have h6 : 6 ≤ i := by omega
      rw [show i - 6 + 6 = i by omega]
      by_cases h32 : i < 32
      · have hz : (BitVec.ofInt 32 63).getLsbD i = false := by
          rw [show (63 : Int) = ((63 : Nat) : Int) by rfl, BitVec.ofInt_natCast, BitVec.getLsbD_ofNat]
          have : (63 : Nat).testBit i = false := Nat.testBit_lt_two_pow (Nat.lt_of_lt_of_le (show 63 < 2 ^ 6 by decide) (Nat.pow_le_pow_right (by decide) h6))
          simp [this]
        rw [hz]
        simp [h6, h32]
      · have : a.testBit i = false := Nat.testBit_lt_two_pow (Nat.lt_of_lt_of_le (show a < 2 ^ 32 by omega) (Nat.pow_le_pow_right (by decide) (by omega)))
        simp [this]
  rw [e, IntKind.wrap_u32]
  omega

/-- One bit. -/
theorem and_pow (a i : Nat) : a &&& 2 ^ i = a / 2 ^ i % 2 * 2 ^ i := by
  apply Nat.eq_of_testBit_eq
  intro j
  rw [Nat.testBit_and, Nat.testBit_two_pow, Nat.mul_comm, Nat.testBit_two_pow_mul]
  by_cases h : i = j
  · subst h
    simp only [decide_true, Bool.and_true, Nat.le_refl, Nat.sub_self, Nat.testBit_zero, Bool.true_and]
    rw [Nat.testBit_eq_decide_div_mod_eq]
    congr 1
    rw [eq_iff_iff]
    omega
  · by_cases hl : i ≤ j
    · have : (a / 2 ^ i % 2).testBit (j - i) = false := Nat.testBit_lt_two_pow (Nat.lt_of_lt_of_le (Nat.mod_lt _ (by decide)) (show 2 ^ 1 ≤ 2 ^ (j - i) from Nat.pow_le_pow_right (by decide) (by omega)))
      simp [h, this]
    · simp [h, hl]

/-- The bits of two entries together, as the code reckons them. -/
def bothN (x y : Nat) : Nat := (((7 &&& (x ||| 8)) ||| (x &&& 8)) &&& (y ||| 8)) ||| (y &&& 8)
/-- .. and as the document says. -/
def refBits (x y : Nat) : Nat := 1 + (if x / 2 % 2 = 1 ∧ y / 2 % 2 = 1 then 2 else 0) + (if x / 4 % 2 = 1 ∧ y / 4 % 2 = 1 then 4 else 0) + (if x / 8 % 2 = 1 ∨ y / 8 % 2 = 1 then 8 else 0) + (if y / 16 % 2 = 1 then 16 else 0)

theorem both_mod (x y : Nat) : bothN x y ||| (y &&& 16) = bothN (x % 32) (y % 32) ||| (y % 32 &&& 16) := by
  apply Nat.eq_of_testBit_eq
  intro i
  unfold bothN
  simp only [Nat.testBit_or, Nat.testBit_and, show 32 = 2 ^ 5 by rfl, Nat.testBit_mod_two_pow]
  by_cases h : i < 5
  · simp [h]
  · have h5 : 2 ^ 5 ≤ 2 ^ i := Nat.pow_le_pow_right (by decide) (by omega)
    have t7 : (7 : Nat).testBit i = false := Nat.testBit_lt_two_pow (Nat.lt_of_lt_of_le (by decide) h5)
    have t8 : (8 : Nat).testBit i = false := Nat.testBit_lt_two_pow (Nat.lt_of_lt_of_le (by decide) h5)
    have t16 : (16 : Nat).testBit i = false := Nat.testBit_lt_two_pow (Nat.lt_of_lt_of_le (by decide) h5)
    simp [h, t7, t8, t16]

theorem both_all : ∀ x y : Fin 32, x.val % 2 = 1 → y.val % 2 = 1 → bothN x.val y.val ||| (y.val &&& 16) = refBits x.val y.val := by decide +kernel

theorem both_ref (x y : Nat) (hx : x % 2 = 1) (hy : y % 2 = 1) : bothN x y ||| (y &&& 16) = refBits x y := by
  have h := both_all ⟨x % 32, Nat.mod_lt _ (by decide)⟩ ⟨y % 32, Nat.mod_lt _ (by decide)⟩ (by simp; omega) (by simp; omega)
  simp only at h
  rw [both_mod, h]
  unfold refBits
  have e1 : x % 32 / 2 % 2 = x / 2 % 2 := by omega
  have e2 : y % 32 / 2 % 2 = y / 2 % 2 := by omega
  have e3 : x % 32 / 4 % 2 = x / 4 % 2 := by omega
  have e4 : y % 32 / 4 % 2 = y / 4 % 2 := by omega
  have e5 : x % 32 / 8 % 2 = x / 8 % 2 := by omega
  have e6 : y % 32 / 8 % 2 = y / 8 % 2 := by omega
  have e7 : y % 32 / 16 % 2 = y / 16 % 2 := by omega
  rw [e1, e2, e3, e4, e5, e6, e7]

theorem bothN_lt (x y : Nat) : bothN x y < 16 := by
  unfold bothN
  have h1 : (y &&& 8) < 16 := Nat.lt_of_le_of_lt Nat.and_le_right (by decide)
  have h2 : (7 &&& (x ||| 8)) < 16 := Nat.lt_of_le_of_lt Nat.and_le_left (by decide)
  have h3 : (x &&& 8) < 16 := Nat.lt_of_le_of_lt Nat.and_le_right (by decide)
  have h4 : (7 &&& (x ||| 8)) ||| (x &&& 8) < 16 := Nat.or_lt_two_pow (n := 4) h2 h3
  have h5 : ((7 &&& (x ||| 8)) ||| (x &&& 8)) &&& (y ||| 8) < 16 := Nat.lt_of_le_of_lt Nat.and_le_left h4
  exact Nat.or_lt_two_pow (n := 4) h5 h1

theorem refBits_lt (x y : Nat) : refBits x y < 32 := by unfold refBits; (repeat' split) <;> omega

/-- A bit that is not there is laid. -/
theorem or_bit (x i : Nat) (hi : i < 32) (hx : x < 4294967296) (h : x / 2 ^ i % 2 = 0) : x ||| 2 ^ i = x + 2 ^ i := by
  have hp : 2 ^ i < 4294967296 := Nat.pow_lt_pow_right (a := 2) (n := 32) (by decide) hi
  have ht : x.testBit i = false := by rw [Nat.testBit_eq_decide_div_mod_eq, h]; rfl
  have e : BitVec.ofNat 32 x &&& BitVec.ofNat 32 (2 ^ i) = 0#32 := by
    apply BitVec.eq_of_toNat_eq
    rw [BitVec.toNat_and, BitVec.toNat_ofNat, BitVec.toNat_ofNat, Nat.mod_eq_of_lt (by omega), Nat.mod_eq_of_lt (by omega), and_pow, h]
    simp
  have h1 := BitVec.add_eq_or_of_and_eq_zero _ _ e
  have hsum : x + 2 ^ i < 4294967296 := by
    have h2 : x < 2 ^ 32 := by omega
    have := Nat.or_lt_two_pow (n := 32) h2 (show 2 ^ i < 2 ^ 32 by omega)
    -- the bits above i and below: x = q * 2^(i+1) + r with r < 2^i
    have hq : x / 2 ^ i = 2 * (x / 2 ^ i / 2) := by omega
    have hd := Nat.div_add_mod x (2 ^ i)
    have hr := Nat.mod_lt x (Nat.two_pow_pos i)
    have hk : 2 ^ (i + 1) * (x / 2 ^ i / 2) = 2 ^ i * (x / 2 ^ i) := by rw [Nat.pow_succ, Nat.mul_assoc, ← hq]
    obtain ⟨j, hj⟩ : ∃ j, 32 = i + 1 + j := ⟨31 - i, by omega⟩
    have hle : x / 2 ^ i / 2 < 2 ^ j := by
      rw [Nat.div_div_eq_div_mul, ← Nat.pow_succ, Nat.div_lt_iff_lt_mul (Nat.two_pow_pos _), ← Nat.pow_add, Nat.add_comm, ← hj]
      exact h2
    have hm : 2 ^ (i + 1) * (x / 2 ^ i / 2 + 1) ≤ 2 ^ (i + 1) * 2 ^ j := Nat.mul_le_mul_left _ hle
    rw [← Nat.pow_add, ← hj, Nat.mul_add, hk, Nat.mul_one, Nat.pow_succ] at hm
    omega
  have h3 := congrArg BitVec.toNat h1
  rw [BitVec.toNat_add, BitVec.toNat_or, BitVec.toNat_ofNat, BitVec.toNat_ofNat, Nat.mod_eq_of_lt (show x < 2 ^ 32 by omega), Nat.mod_eq_of_lt (show 2 ^ i < 2 ^ 32 by omega), Nat.mod_eq_of_lt (by omega)] at h3
  exact h3.symm
end Go.Mum

/- Where tables lead: what is reckoned with bits. -/
namespace Go.Proofs.Ytnpnedimgfbnhaa
open Go.RowKit Go.Mum

/-- A memory as tables are read in it: 'rd a' is the word at a, if there is one. -/
structure Mem (w : World) (v : Value) (n : Nat) (rd : Nat → Option Nat) : Prop where
  word : ∀ x, Keep [] w x → ∀ a : Nat, a < 4294967296 → Calls Try.prog 37 #[v, .int .u32 a] x (RdPost (.int .u32 (((rd a).getD 0 : Nat) : Int)) (rd a).isSome x)
  size : ∀ x, Keep [] w x → Calls Try.prog 36 #[v] x fun e w' => e = .returned (.int .u32 (64 * (n : Int))) ∧ x = w'
  lt : ∀ a z, rd a = some z → z < 4294967296
  n512 : n ≤ 512

theorem Mem.keep0 {w x : World} {v : Value} {n : Nat} {rd : Nat → Option Nat} (h : Mem w v n rd) (hk : Keep [] w x) : Mem x v n rd :=
  ⟨fun y hy => h.word y (hk.trans hy), fun y hy => h.size y (hk.trans hy), h.lt, h.n512⟩

/-- The word at an address of n frames. -/
def rdOf (n : Nat) (L : List Int) (a : Nat) : Option Nat := if layB n a 4 4 = true then some (word4 L a).toNat else none

theorem word4_lt {L : List Int} (hL : IsBytes L) {p : Nat} (h : p + 3 < L.length) : 0 ≤ word4 L p ∧ word4 L p < 4294967296 := by
  have b0 := u8_byte hL (j := p) (by omega)
  have b1 := u8_byte hL (j := p + 1) (by omega)
  have b2 := u8_byte hL (j := p + 2) (by omega)
  have b3 := u8_byte hL (j := p + 3) (by omega)
  unfold word4
  omega

theorem rdOf_lt {n : Nat} {L : List Int} (hL : IsBytes L) (hl : L.length = 64 * n) {a z : Nat} (h : rdOf n L a = some z) : z < 4294967296 := by
  unfold rdOf at h
  split at h
  · rename_i hb
    have := of_decide_eq_true hb
    have := word4_lt hL (p := a) (by omega)
    simp at h
    omega
  · cases h

theorem wordAt_rd {n : Nat} {L : List Int} (hL : IsBytes L) (hl : L.length = 64 * n) (a : Nat) : wordAt n L a = (((rdOf n L a).getD 0 : Nat) : Int) ∧ layB n a 4 4 = (rdOf n L a).isSome := by
  unfold wordAt rdOf
  by_cases hb : layB n a 4 4 = true
  · have := of_decide_eq_true hb
    have := word4_lt hL (p := a) (by omega)
    rw [if_pos hb, if_pos hb, hb]
    simp
    omega
  · rw [if_neg hb, if_neg hb]
    simp [hb]

theorem Both.mem {w : World} {r fb g q n : Nat} {L : List Int} (h : Both w r fb g q n L) : Mem w (.pointer (some ⟨r, 0, none⟩)) n (rdOf n L) := by
  refine ⟨fun x hx a ha => ?_, fun x hx => ?_, fun a z hz => rdOf_lt h.ref.2.1 h.len hz, by have := h.n1; omega⟩
  · obtain ⟨e1, e2⟩ := wordAt_rd h.ref.2.1 h.len a
    have := bword_r (h.keep0 hx) a ha
    rw [e1, e2] at this
    exact this
  · have := rsize_any (h.ram.keep0 hx).sz
    rw [List.length_range] at this
    exact this

def dirAt (root va : Nat) : Nat := (root / 64 * 64 + 4 * (va / 1024)) % 4294967296
def tabAt (x va : Nat) : Nat := x / 64 * 64 + 4 * (va / 64 % 16)
def endAt (y va : Nat) : Nat := y / 64 * 64 + va % 64

/-- Where a virtual address leads: bits, address, the table's entry, and the frames of directory, table and page. -/
def lookF (rd : Nat → Option Nat) (n root dirs va : Nat) : Option (Nat × Nat × Nat × Nat × Nat × Nat) :=
  if dirs ≤ va / 1024 then none else
  match rd (dirAt root va) with
  | none => none
  | some x => if x % 2 = 0 then none else
    match rd (tabAt x va) with
    | none => none
    | some y => if y % 2 = 0 then none else if 64 * n ≤ endAt y va then none else
      some (refBits x y, endAt y va, tabAt x va, dirAt root va / 64, tabAt x va / 64, endAt y va / 64)

def wayV : Option (Nat × Nat × Nat × Nat × Nat × Nat) → Value
  | none => .agg #[.int .u32 0, .int .u32 0, .int .u32 0, .int .i64 0, .int .i64 0, .int .i64 0]
  | some (b, a, e, d, t, p) => .agg #[.int .u32 b, .int .u32 a, .int .u32 e, .int .i64 d, .int .i64 t, .int .i64 p]

def LookPost (q : Option (Nat × Nat × Nat × Nat × Nat × Nat)) (w : World) (e : Ending) (w' : World) : Prop := e = .returned (.tuple #[wayV q, .bool q.isSome]) ∧ Keep [] w w'

set_option maxRecDepth 100000 in
set_option maxHeartbeats 1000000 in
theorem both_at {w : World} {b : Nat} (x y : Nat) (hx : x < 4294967296) (hy : y < 4294967296) (c0 : w.cell? ⟨b, 0, none⟩ = some (.int .u32 x)) (c1 : w.cell? ⟨b, 1, none⟩ = some (.int .u32 y)) :
    Calls Try.prog 38 #[.slice (some ⟨b, 0, none⟩) 2 2] w fun e w' => e = .returned (.int .u32 (bothN x y : Nat)) ∧ w = w' := by
  have e1 : bits .or .u32 (x : Int) 8 = ((x ||| 8 : Nat) : Int) := or_u32 x 8 hx (by decide)
  have l1 : x ||| 8 < 4294967296 := Nat.or_lt_two_pow (n := 32) hx (by decide)
  have e2 : bits .and .u32 7 ((x ||| 8 : Nat) : Int) = ((7 &&& (x ||| 8) : Nat) : Int) := and_u32 7 (x ||| 8) (by decide) l1
  have l2 : 7 &&& (x ||| 8) < 4294967296 := Nat.lt_of_le_of_lt Nat.and_le_left (by decide)
  have e3 : bits .and .u32 (x : Int) 8 = ((x &&& 8 : Nat) : Int) := and_u32 x 8 hx (by decide)
  have l3 : x &&& 8 < 4294967296 := Nat.lt_of_le_of_lt Nat.and_le_right (by decide)
  have e4 := or_u32 _ _ l2 l3
  have l4 : 7 &&& (x ||| 8) ||| x &&& 8 < 4294967296 := Nat.or_lt_two_pow (n := 32) l2 l3
  have f1 : bits .or .u32 (y : Int) 8 = ((y ||| 8 : Nat) : Int) := or_u32 y 8 hy (by decide)
  have m1 : y ||| 8 < 4294967296 := Nat.or_lt_two_pow (n := 32) hy (by decide)
  have f2 := and_u32 _ (y ||| 8) l4 m1
  have m2 : (7 &&& (x ||| 8) ||| x &&& 8) &&& (y ||| 8) < 4294967296 := Nat.lt_of_le_of_lt Nat.and_le_left l4
  have f3 : bits .and .u32 (y : Int) 8 = ((y &&& 8 : Nat) : Int) := and_u32 y 8 hy (by decide)
  have m3 : y &&& 8 < 4294967296 := Nat.lt_of_le_of_lt Nat.and_le_right (by decide)
  have f4 := or_u32 _ _ m2 m3
  rw [show (((7 &&& (x ||| 8) ||| x &&& 8) &&& (y ||| 8) ||| y &&& 8 : Nat)) = bothN x y from rfl] at f4
  have hB := Lib.hid (bothN_lt x y)
  generalize bothN x y = B at f4
  generalize y &&& 8 = y8 at f3 f4
  generalize (7 &&& (x ||| 8) ||| x &&& 8) &&& (y ||| 8) = z2 at f2 f4
  generalize y ||| 8 = yo at f1 f2
  generalize 7 &&& (x ||| 8) ||| x &&& 8 = z1 at e4 f2
  generalize 7 &&& (x ||| 8) = z0 at e2 e4
  generalize x &&& 8 = x8 at e3 e4
  generalize x ||| 8 = xo at e1 e2
  clear l1 l2 l3 l4 m1 m2 m3
  go_enter Try.func38, Try.ntmps38
  go_wp2_with fail
  refine wp_loop_rounds 3 ?_
  rw [rounds_succ]
  go_wp2_with fail
  rw [rounds_succ]
  go_wp2_with fail
  rw [rounds_succ]
  go_wp2_with fail
  go_outline
  go_ret
  exact ⟨rfl, rfl⟩
end Go.Proofs.Ytnpnedimgfbnhaa

/- Where tables lead, as the document says. -/
namespace Go.Proofs.Ytnpnedimgfbnhaa
open Go.RowKit Go.Mum
set_option linter.unusedVariables false

/-- Is a bit there? -/
def hasB (x b : Nat) : Bool := decide (x / b % 2 = 1)

set_option maxHeartbeats 400000 in
theorem has_at (x b : Nat) (hx : x < 4294967296) (hb : 0 < b) (hb2 : b < 4294967296) (w : World) :
    Calls Try.prog 34 #[.int .u32 x, .int .u32 b] w fun e w' => e = .returned (.bool (hasB x b)) ∧ w = w' := by
  have hne : ¬ ((b : Int) = 0) := by omega
  have hq : ((x : Int).tdiv (b : Int)) = ((x / b : Nat) : Int) := by rw [Int.tdiv_eq_ediv_of_nonneg (by omega)]; simp
  have hl : x / b < 4294967296 := Nat.lt_of_le_of_lt (Nat.div_le_self _ _) hx
  unfold hasB
  generalize x / b = y at *
  have hw : IntKind.u32.wrap (y : Int) = (y : Int) := by rw [IntKind.wrap_u32]; omega
  have he : ((y : Int) % 2 == 1) = decide (y % 2 = 1) := by
    rw [Bool.eq_iff_iff]; simp; omega
  go_enter Try.func34, Try.ntmps34
  go_wp2
  go_ret
  exact ⟨rfl, rfl⟩
end Go.Proofs.Ytnpnedimgfbnhaa
