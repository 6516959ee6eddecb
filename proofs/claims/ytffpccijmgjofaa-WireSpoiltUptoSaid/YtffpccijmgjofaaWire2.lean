/- Numbers read: Get, and the document's. -/
import Derived.Test.YtffpccijmgjofaaWire1
import Derived.Laws.BitsLemmas
import Derived.Lib.EndianBits
namespace Go.Proofs.Ytffpccijmgjofaa
open Go.RowKit Go.Mum

/-- What stands at the head of bytes: the number, how many bytes it is, the error. -/
def getL : Nat → Nat → List Int → Nat × Nat × Int
  | _, _, [] => (0, 0, 290)
  | k, acc, x :: r => if k = 9 ∧ 1 < x then (0, 0, 291) else if 128 ≤ x then getL (k + 1) (acc + x.toNat % 128 * 128 ^ k) r else if x = 0 ∧ 0 < k then (0, 0, 291) else (acc + x.toNat % 128 * 128 ^ k, k + 1, 0)

def getV (q : Nat × Nat × Int) : Value := .tuple #[.int .u64 q.1, .int .i64 q.2.1, .int .i64 q.2.2]

theorem drop_cons {L : List Int} {j : Nat} (h : j < L.length) : L.drop j = L.getD j 0 :: L.drop (j + 1) := by
  rw [List.drop_eq_getElem_cons h]
  simp [List.getD, List.getElem?_eq_getElem h]

/-- The byte's seven bits laid above those that were read. -/
theorem join7 (acc j : Nat) (x : Int) (hx : 0 ≤ x ∧ x < 256) (hacc : acc < 128 ^ j) (hj : j < 9 ∨ j = 9 ∧ x ≤ 1) :
    bits BinOp.or IntKind.u64 (acc : Int) (IntKind.u64.wrap (IntKind.u64.wrap (bits BinOp.and IntKind.u8 x 127) * 2 ^ (7 * j))) = ((acc + x.toNat % 128 * 128 ^ j : Nat) : Int) ∧ acc + x.toNat % 128 * 128 ^ j < 128 ^ (j + 1) := by
  have h1 : bits BinOp.and IntKind.u8 x 127 = x % 128 := by
    have := bits_mask .u8 8 (by decide) wraps_u8 7 (by decide) x hx.1 (by simpa using hx.2)
    simpa using this
  have hp : (2 : Nat) ^ (7 * j) = 128 ^ j := by rw [Nat.pow_mul]
  have hm : x.toNat % 128 < 128 := Nat.mod_lt _ (by decide)
  have hlt : acc + x.toNat % 128 * 128 ^ j < 128 ^ (j + 1) := by
    rw [Nat.pow_succ, Nat.mul_comm (128 ^ j)]
    have : x.toNat % 128 * 128 ^ j ≤ 127 * 128 ^ j := Nat.mul_le_mul_right _ (by omega)
    omega
  have hbig : x.toNat % 128 * 128 ^ j < 2 ^ 64 := by
    rcases hj with hj | ⟨rfl, hx1⟩
    · have h9 : 128 ^ (j + 1) ≤ 128 ^ 9 := Nat.pow_le_pow_right (by decide) (by omega)
      have : (128 : Nat) ^ 9 = 9223372036854775808 := by decide
      omega
    · have : x.toNat % 128 ≤ 1 := by omega
      have h2 : x.toNat % 128 * 128 ^ 9 ≤ 1 * 128 ^ 9 := Nat.mul_le_mul_right _ this
      have : (128 : Nat) ^ 9 = 9223372036854775808 := by decide
      omega
  refine ⟨?_, hlt⟩
  have e1 : IntKind.u64.wrap (x % 128) = ((x.toNat % 128 : Nat) : Int) := by rw [IntKind.wrap_u64]; omega
  have e2 : ((2 : Int) ^ (7 * j)) = ((128 ^ j : Nat) : Int) := by rw [← hp]; simp
  have e3 : ((x.toNat % 128 : Nat) : Int) * ((128 ^ j : Nat) : Int) = ((x.toNat % 128 * 128 ^ j : Nat) : Int) := by simp
  rw [h1, e1, e2, e3]
  generalize hq : x.toNat % 128 * 128 ^ j = q at hbig
  have e4 : IntKind.u64.wrap (q : Int) = (q : Int) := by rw [IntKind.wrap_u64]; omega
  rw [e4]
  have hdiv : (q : Int) % 2 ^ (7 * j) = 0 := by
    rw [e2, ← hq]
    exact Int.emod_eq_zero_of_dvd (by simp)
  have hacc2 : acc < 2 ^ 64 := by
    have h9 : 128 ^ j ≤ 128 ^ 9 := Nat.pow_le_pow_right (by decide) (by omega)
    have : (128 : Nat) ^ 9 = 9223372036854775808 := by decide
    omega
  have := bits_join_low .u64 64 (by decide) wraps_u64 (7 * j) (acc : Int) (q : Int) (by omega) (by rw [e2]; exact_mod_cast hacc) (by exact_mod_cast hacc2) (by omega) hdiv (by exact_mod_cast hbig)
  rw [this]
  simp

set_option maxRecDepth 100000 in
set_option maxHeartbeats 1000000 in
theorem get_at {a : Option Addr} {c : Nat} {L : List Int} {w : World} (h : Row w a c L) :
    Calls Try.prog 14 #[.slice a L.length c] w fun e w' => e = .returned (getV (getL 0 0 L)) ∧ w = w' := by
  have hm : L.length ≤ 9223372036854775807 := by have := h.cap; unfold maxLen at this; omega
  have H := Lib.hid h
  clear h
  go_enter Try.func14, Try.ntmps14
  go_wp2
  go_loop [5, 10] (fun n i => ∃ j acc : Nat, i = .int .i64 j ∧ n = .int .u64 acc ∧ j ≤ L.length ∧ j ≤ 9 ∧ acc < 128 ^ j ∧ getL 0 0 L = getL j acc (L.drop j)) (fun _ i => L.length - (intOf i).toNat)
  case atStart => exact ⟨0, 0, rfl, rfl, by omega, by omega, by decide, rfl⟩
  case round =>
    obtain ⟨j, acc, rfl, rfl, hj, hj9, hacc, hget⟩ := hrel
    by_cases hlt : j < L.length
    · obtain ⟨b, off, rfl, hc⟩ : ∃ b off, a = some ⟨b, off, none⟩ ∧ w.cell? ⟨b, off + j, none⟩ = some (.int .u8 (L.getD j 0)) := by
        rcases H.out.at' with ⟨_, rfl, _⟩ | ⟨rfl, _⟩ | ⟨b, off, rfl, hc⟩
        · simp at hlt
        · simp at hlt
        · exact ⟨b, off, rfl, hc j hlt⟩
      have hx : 0 ≤ L.getD j 0 ∧ L.getD j 0 < 256 := H.out.bytes _ (by simp [List.getD, List.getElem?_eq_getElem hlt])
      rw [drop_cons hlt] at hget
      generalize L.getD j 0 = x at hc hx hget
      have HG := Lib.hid hget
      clear hget
      by_cases h9 : j = 9
      · subst h9
        by_cases hx1 : 1 < x
        · have HF : Hid (getL 0 0 L = (0, 0, 291)) := Lib.hid (by rw [HG.out, getL, if_pos ⟨rfl, hx1⟩])
          go_wp2
          go_ret3
          exact ⟨by rw [HF.out]; rfl, rfl⟩
        · have J := join7 acc 9 x hx hacc (.inr ⟨rfl, by omega⟩)
          have J1 := J.1
          rw [show (2 : Int) ^ (7 * 9) = 9223372036854775808 by decide] at J1
          have hq := Lib.hid J.2
          clear J
          by_cases h0 : x = 0
          · subst h0
            have HF : Hid (getL 0 0 L = (0, 0, 291)) := Lib.hid (by rw [HG.out, getL, if_neg (by simp), if_neg (by simp), if_pos ⟨rfl, by omega⟩])
            go_wp2
            go_ret3
            exact ⟨by rw [HF.out]; rfl, rfl⟩
          · obtain rfl : x = 1 := by omega
            have hF : getL 0 0 L = (acc + (1 : Int).toNat % 128 * 128 ^ 9, 10, 0) := by rw [HG.out, getL, if_neg (by simp), if_neg (by simp), if_neg (by simp)]
            have HF := Lib.hid hF
            clear hF
            go_wp2
            go_ret3
            exact ⟨by rw [HF.out]; rfl, rfl⟩
      · have J := join7 acc j x hx hacc (.inl (by omega))
        have J1 := J.1
        have HQ := Lib.hid J.2
        clear J
        generalize hz : acc + x.toNat % 128 * 128 ^ j = z at J1 HQ
        by_cases h128 : 128 ≤ x
        · have hF : getL 0 0 L = getL (j + 1) z (L.drop (j + 1)) := by rw [HG.out, getL, if_neg (by omega), if_pos h128, hz]
          have HF := Lib.hid hF
          clear hF hz
          go_wp2
          go_round
          case rel => exact ⟨j + 1, z, by go_num, rfl, by omega, by omega, HQ.out, HF.out⟩
          case measure => simp [intOf]; omega
        · by_cases h0 : x = 0 ∧ 0 < j
          · have hF : getL 0 0 L = (0, 0, 291) := by rw [HG.out, getL, if_neg (by omega), if_neg h128, if_pos h0]
            obtain ⟨rfl, h0j⟩ := h0
            have HF := Lib.hid hF
            clear hF hz
            go_wp2
            go_ret3
            exact ⟨by rw [HF.out]; rfl, rfl⟩
          · have hF : getL 0 0 L = (z, j + 1, 0) := by rw [HG.out, getL, if_neg (by omega), if_neg h128, if_neg h0, hz]
            have HF := Lib.hid hF
            clear hF hz
            go_wp2
            all_goals go_ret3
            all_goals exact ⟨by rw [HF.out]; rfl, rfl⟩
    · obtain rfl : j = L.length := by omega
      have HF : Hid (getL 0 0 L = (0, 0, 290)) := Lib.hid (by rw [hget, List.drop_length, getL])
      clear hget
      go_wp2
      go_ret3
      exact ⟨by rw [HF.out]; rfl, rfl⟩

set_option maxRecDepth 100000 in
set_option maxHeartbeats 1000000 in
theorem rget_at {a : Option Addr} {c : Nat} {L : List Int} {w : World} (h : Row w a c L) :
    Calls Try.prog 15 #[.slice a L.length c] w fun e w' => e = .returned (getV (getL 0 0 L)) ∧ w = w' := by
  have hm : L.length ≤ 9223372036854775807 := by have := h.cap; unfold maxLen at this; omega
  have H := Lib.hid h
  clear h
  go_enter Try.func15, Try.ntmps15
  go_wp2
  go_loop [5, 6, 7] (fun n p i => ∃ j acc q : Nat, i = .int .i64 j ∧ n = .int .u64 acc ∧ p = .int .u64 q ∧ q = 128 ^ j ∧ j ≤ L.length ∧ j ≤ 9 ∧ acc < 128 ^ j ∧ getL 0 0 L = getL j acc (L.drop j)) (fun _ _ i => L.length - (intOf i).toNat)
  case atStart => exact ⟨0, 0, 1, rfl, rfl, rfl, rfl, by omega, by omega, by decide, rfl⟩
  case round =>
    obtain ⟨j, acc, q, rfl, rfl, rfl, hq, hj, hj9, hacc, hget⟩ := hrel
    by_cases hlt : j < L.length
    · obtain ⟨b, off, rfl, hc⟩ : ∃ b off, a = some ⟨b, off, none⟩ ∧ w.cell? ⟨b, off + j, none⟩ = some (.int .u8 (L.getD j 0)) := by
        rcases H.out.at' with ⟨_, rfl, _⟩ | ⟨rfl, _⟩ | ⟨b, off, rfl, hc⟩
        · simp at hlt
        · simp at hlt
        · exact ⟨b, off, rfl, hc j hlt⟩
      have hx : 0 ≤ L.getD j 0 ∧ L.getD j 0 < 256 := H.out.bytes _ (by simp [List.getD, List.getElem?_eq_getElem hlt])
      rw [drop_cons hlt] at hget
      generalize L.getD j 0 = x at hc hx hget
      obtain ⟨xn, rfl⟩ : ∃ n : Nat, x = n := ⟨x.toNat, by omega⟩
      have HG := Lib.hid hget
      clear hget
      have w0 : IntKind.u64.wrap 0 = 0 := by decide
      have p9 : 128 ^ j ≤ 128 ^ 9 := Nat.pow_le_pow_right (by decide) hj9
      have p9' : (128 : Nat) ^ 9 = 9223372036854775808 := by decide
      have w1 : IntKind.u64.wrap (acc : Int) = (acc : Int) := by rw [IntKind.wrap_u64]; omega
      have w2 : IntKind.u64.wrap (q : Int) = (q : Int) := by rw [IntKind.wrap_u64]; omega
      by_cases h9 : j = 9
      · subst h9
        by_cases hx1 : 1 < xn
        · have HF : Hid (getL 0 0 L = (0, 0, 291)) := Lib.hid (by rw [HG.out, getL, if_pos ⟨rfl, by omega⟩])
          have hx1' : (1 : Int) < (xn : Int) := by omega
          clear hq w1 w2 p9 p9'
          go_wp2
          go_ret3
          exact ⟨by rw [HF.out]; rfl, rfl⟩
        · by_cases h0 : xn = 0
          · subst h0
            have HF : Hid (getL 0 0 L = (0, 0, 291)) := Lib.hid (by rw [HG.out, getL, if_neg (by simp), if_neg (by simp), if_pos ⟨rfl, by omega⟩])
            clear hq p9 p9'
            go_wp2
            go_ret3
            exact ⟨by rw [HF.out]; rfl, rfl⟩
          · obtain rfl : xn = 1 := by omega
            have HF : Hid (getL 0 0 L = (acc + q, 10, 0)) := Lib.hid (by rw [HG.out, getL, if_neg (by simp), if_neg (by simp), if_neg (by simp), hq]; rfl)
            have w3 : IntKind.u64.wrap ((acc : Int) + (q : Int)) = ((acc + q : Nat) : Int) := by rw [IntKind.wrap_u64]; omega
            clear hq p9 p9'
            go_wp2
            go_ret3
            exact ⟨by rw [HF.out]; rfl, rfl⟩
      · have p8 : 128 ^ j ≤ 128 ^ 8 := Nat.pow_le_pow_right (by decide) (by omega)
        have p8' : (128 : Nat) ^ 8 = 72057594037927936 := by decide
        have hz : acc + xn % 128 * 128 ^ j < 128 ^ (j + 1) := (join7 acc j xn ⟨by omega, by omega⟩ hacc (.inl (by omega))).2
        have hs : 128 ^ (j + 1) = q * 128 := by rw [hq, Nat.pow_succ]
        have hb : xn % 128 * 128 ^ j ≤ 127 * 128 ^ j := Nat.mul_le_mul_right _ (by omega)
        have w3 : IntKind.u64.wrap ((q : Int) * ((xn : Int) % 128)) = ((xn % 128 * 128 ^ j : Nat) : Int) := by
          rw [show (q : Int) * ((xn : Int) % 128) = ((xn % 128 * 128 ^ j : Nat) : Int) by rw [← hq]; push_cast; exact Int.mul_comm _ _, IntKind.wrap_u64]
          omega
        have w4 : IntKind.u64.wrap ((acc : Int) + ((xn % 128 * 128 ^ j : Nat) : Int)) = ((acc + xn % 128 * 128 ^ j : Nat) : Int) := by rw [IntKind.wrap_u64]; omega
        have w5 : IntKind.u64.wrap ((q : Int) * 128) = ((q * 128 : Nat) : Int) := by rw [IntKind.wrap_u64]; omega
        generalize hy : xn % 128 * 128 ^ j = y at w3 w4 hz hb
        have HB := Lib.hid (And.intro hz hs)
        clear hz hs hb hq p9 p9' p8 p8'
        by_cases h128 : 128 ≤ xn
        · have HF : Hid (getL 0 0 L = getL (j + 1) (acc + y) (L.drop (j + 1))) := Lib.hid (by rw [HG.out, getL, if_neg (by omega), if_pos (by omega), ← hy]; rfl)
          have h128' : ¬ ((xn : Int) < 128) := by omega
          clear hy
          go_wp2
          go_round
          case rel => exact ⟨j + 1, acc + y, q * 128, by go_num, rfl, rfl, HB.out.2.symm, by omega, by omega, HB.out.1, HF.out⟩
          case measure => simp [intOf]; omega
        · have h128' : (xn : Int) < 128 := by omega
          by_cases h0 : xn = 0 ∧ 0 < j
          · have HF : Hid (getL 0 0 L = (0, 0, 291)) := Lib.hid (by rw [HG.out, getL, if_neg (by omega), if_neg (by omega), if_pos ⟨by omega, h0.2⟩])
            obtain ⟨rfl, h0j⟩ := h0
            clear hy w3 w4
            go_wp2
            go_ret3
            exact ⟨by rw [HF.out]; rfl, rfl⟩
          · have HF : Hid (getL 0 0 L = (acc + y, j + 1, 0)) := Lib.hid (by rw [HG.out, getL, if_neg (by omega), if_neg (by omega), if_neg (by omega), ← hy]; rfl)
            by_cases hx0 : xn = 0
            · subst hx0
              obtain rfl : j = 0 := by omega
              obtain rfl : y = 0 := by rw [← hy]
              clear hy w3 w4
              rw [Nat.add_zero] at hc
              simp only [Int.ofNat_zero] at hc
              go_wp2
              go_ret3
              exact ⟨by rw [HF.out]; rfl, rfl⟩
            · clear hy
              go_wp2
              go_ret3
              exact ⟨by rw [HF.out]; rfl, rfl⟩
    · obtain rfl : j = L.length := by omega
      have HF : Hid (getL 0 0 L = (0, 0, 290)) := Lib.hid (by rw [hget, List.drop_length, getL])
      clear hget
      go_wp2
      go_ret3
      exact ⟨by rw [HF.out]; rfl, rfl⟩
end Go.Proofs.Ytffpccijmgjofaa
