/- The sum as a register that is moved: which spoilt bytes are found; laws on numbers and lists alone. -/
import Derived.Test.YtffpccijmgjofaaWire6
namespace Go.Proofs.Ytffpccijmgjofaa
open Go.RowKit Go.Mum

/-- Bytes as one number, the first byte lowest. -/
def big : List Int → Nat
  | [] => 0
  | x :: l => x.toNat + 256 * big l

theorem xor_half (a b : Nat) : (a ^^^ b) / 2 = (a / 2) ^^^ (b / 2) := by
  apply Nat.eq_of_testBit_eq
  intro i
  simp [Nat.testBit_xor, Nat.testBit_div_two]

theorem step_xor (a b : Nat) : step (a ^^^ b) = step a ^^^ step b := by
  have h := xor_half a b
  have hm := @Nat.xor_mod_two_eq_one a b
  unfold step
  by_cases ha : a % 2 = 1 <;> by_cases hb : b % 2 = 1
  · rw [if_neg (by rw [hm]; simp [ha, hb]), if_pos ha, if_pos hb, h]
    rw [show (a / 2 ^^^ 3988292384) ^^^ (b / 2 ^^^ 3988292384) = (a / 2 ^^^ b / 2) ^^^ (3988292384 ^^^ 3988292384) by ac_rfl, Nat.xor_self, Nat.xor_zero]
  · rw [if_pos (by rw [hm]; simp [ha, hb]), if_pos ha, if_neg hb, h]
    ac_rfl
  · rw [if_pos (by rw [hm]; simp [ha, hb]), if_neg ha, if_pos hb, h]
    ac_rfl
  · rw [if_neg (by rw [hm]; simp [ha, hb]), if_neg ha, if_neg hb, h]

theorem stepN_xor (n : Nat) : ∀ a b, stepN n (a ^^^ b) = stepN n a ^^^ stepN n b := by
  induction n with
  | zero => intro a b; rfl
  | succ n ih => intro a b; simp only [stepN]; rw [step_xor, ih]

theorem stepN_add (n m : Nat) : ∀ a, stepN (n + m) a = stepN m (stepN n a) := by
  induction n with
  | zero => intro a; simp [stepN]
  | succ n ih => intro a; rw [show n + 1 + m = (n + m) + 1 by omega]; simp only [stepN]; rw [ih]

theorem step_two (a : Nat) : step (2 * a) = a := by
  unfold step; rw [if_neg (by omega)]; omega

theorem stepN_pow (n : Nat) : ∀ a, stepN n (2 ^ n * a) = a := by
  induction n with
  | zero => intro a; simp [stepN]
  | succ n ih => intro a; simp only [stepN]; rw [Nat.pow_succ, Nat.mul_comm (2 ^ n) 2, Nat.mul_assoc, step_two, ih]

theorem step_lt' {r : Nat} (h : r < 4294967296) : step r < 4294967296 := by
  unfold step
  split
  · exact Nat.xor_lt_two_pow (n := 32) (by omega) (by decide)
  · omega

/-- A register that is not 0 does not come to 0. -/
theorem step_ne {r : Nat} (h : r < 4294967296) (h0 : r ≠ 0) : step r ≠ 0 := by
  unfold step
  split
  · intro e
    have : r / 2 = 3988292384 := by
      have := congrArg (· ^^^ 3988292384) e
      simp only [Nat.xor_assoc, Nat.xor_self, Nat.xor_zero, Nat.zero_xor] at this
      exact this
    omega
  · omega

theorem stepN_ne (n : Nat) : ∀ {r : Nat}, r < 4294967296 → r ≠ 0 → stepN n r ≠ 0 := by
  induction n with
  | zero => intro r _ h; exact h
  | succ n ih => intro r h h0; exact ih (step_lt' h) (step_ne h h0)

theorem add_xor {x y : Nat} (hx : x < 256) : x + 256 * y = x ^^^ (256 * y) := by
  rw [show 256 * y = 2 ^ 8 * y by rfl]
  apply Nat.eq_of_testBit_eq
  intro i
  rw [Nat.add_comm, Nat.testBit_two_pow_mul_add y (by simpa using hx), Nat.testBit_xor, Nat.testBit_two_pow_mul]
  by_cases hi : i < 8
  · simp [hi, show ¬ 8 ≤ i by omega]
  · have : x.testBit i = false := Nat.testBit_lt_two_pow (Nat.lt_of_lt_of_le hx (by rw [show 256 = 2 ^ 8 by rfl]; exact Nat.pow_le_pow_right (by decide) (by omega)))
    simp [hi, this, show 8 ≤ i by omega]

theorem big_cons {x : Int} (l : List Int) (hx : 0 ≤ x ∧ x < 256) : big (x :: l) = x.toNat ^^^ (256 * big l) := add_xor (by omega)

theorem crc_big : ∀ (L : List Int) (r : Nat), IsBytes L → crc r L = stepN (8 * L.length) (big L ^^^ r)
  | [], r, _ => by simp [crc, big, stepN]
  | x :: l, r, h => by
    have hx := h x (by simp)
    have ih := crc_big l (stepN 8 (r ^^^ x.toNat)) (fun y hy => h y (by simp [hy]))
    rw [show crc r (x :: l) = crc (stepN 8 (r ^^^ x.toNat)) l by rfl, ih, List.length_cons, show 8 * (l.length + 1) = 8 + 8 * l.length by omega, stepN_add, big_cons l hx]
    congr 1
    rw [show x.toNat ^^^ (256 * big l) ^^^ r = (2 ^ 8 * big l) ^^^ (r ^^^ x.toNat) by rw [show 2 ^ 8 = 256 by rfl]; ac_rfl, stepN_xor 8 (2 ^ 8 * big l), stepN_pow]

theorem big_append : ∀ (a b : List Int), big (a ++ b) = big a + 2 ^ (8 * a.length) * big b
  | [], b => by simp [big]
  | x :: a, b => by
    rw [List.cons_append, big, big, big_append a b, List.length_cons, show 8 * (a.length + 1) = 8 * a.length + 8 by omega, Nat.pow_add]
    rw [Nat.mul_add, Nat.add_assoc]
    congr 2
    rw [show (2 : Nat) ^ 8 = 256 by rfl, Nat.mul_comm (2 ^ (8 * a.length)) 256, Nat.mul_assoc]

theorem big_lt : ∀ {L : List Int}, IsBytes L → big L < 2 ^ (8 * L.length)
  | [], _ => by simp [big]
  | x :: l, h => by
    have hx := h x (by simp)
    have ih := big_lt (L := l) (fun y hy => h y (by simp [hy]))
    rw [big, List.length_cons, show 8 * (l.length + 1) = 8 * l.length + 8 by omega, Nat.pow_add, show (2 : Nat) ^ 8 = 256 by rfl]
    omega

theorem add_pow_xor {x y n : Nat} (hx : x < 2 ^ n) : x + 2 ^ n * y = x ^^^ (2 ^ n * y) := by
  apply Nat.eq_of_testBit_eq
  intro i
  rw [Nat.add_comm, Nat.testBit_two_pow_mul_add y hx, Nat.testBit_xor, Nat.testBit_two_pow_mul]
  by_cases hi : i < n
  · simp [hi, show ¬ n ≤ i by omega]
  · have : x.testBit i = false := Nat.testBit_lt_two_pow (Nat.lt_of_lt_of_le hx (Nat.pow_le_pow_right (by decide) (by omega)))
    simp [hi, this, show n ≤ i by omega]

/-- The register behind bytes and behind a number of 32 bits. -/
theorem crc_split {M : List Int} {d : Nat} (hM : IsBytes M) : stepN (8 * M.length + 32) ((big M + 2 ^ (8 * M.length) * d) ^^^ 4294967295) = stepN 32 (crc 4294967295 M ^^^ d) := by
  rw [stepN_add, crc_big M _ hM, add_pow_xor (big_lt hM)]
  congr 1
  rw [show (big M ^^^ 2 ^ (8 * M.length) * d) ^^^ 4294967295 = (big M ^^^ 4294967295) ^^^ 2 ^ (8 * M.length) * d by ac_rfl, stepN_xor, stepN_pow]

theorem crc_lt' {r : Nat} {L : List Int} (h : r < 4294967296) (hL : IsBytes L) : crc r L < 4294967296 := by
  induction L generalizing r with
  | nil => exact h
  | cons x l ih =>
    have hx := hL x (by simp)
    refine ih (r := stepN 8 (r ^^^ x.toNat)) ?_ (fun y hy => hL y (by simp [hy]))
    have : ∀ n r, r < 4294967296 → stepN n r < 4294967296 := by
      intro n
      induction n with
      | zero => intro r h; exact h
      | succ n ih => intro r h; exact ih _ (step_lt' h)
    exact this 8 _ (Nat.xor_lt_two_pow (n := 32) h (by omega))

theorem compl_xor {r : Nat} (h : r < 4294967296) : 4294967295 - r = r ^^^ 4294967295 := by
  have h1 : (BitVec.allOnes 32 ^^^ BitVec.ofNat 32 r).toNat = 4294967295 - r := by
    rw [BitVec.allOnes_xor, BitVec.toNat_not, BitVec.toNat_ofNat, Nat.mod_eq_of_lt (by omega)]
  rw [← h1, BitVec.toNat_xor, BitVec.toNat_allOnes, BitVec.toNat_ofNat, Nat.mod_eq_of_lt (by omega), Nat.xor_comm]

/-- The sum is right just if the register behind all bytes is the constant one. -/
theorem sum_iff {M : List Int} {d : Nat} (hM : IsBytes M) (hd : d < 4294967296) : sumOf M = d ↔ stepN (8 * M.length + 32) ((big M + 2 ^ (8 * M.length) * d) ^^^ 4294967295) = stepN 32 4294967295 := by
  rw [crc_split hM]
  have hc := crc_lt' (r := 4294967295) (by decide) hM
  unfold sumOf
  rw [compl_xor hc]
  generalize crc 4294967295 M = r at hc ⊢
  constructor
  · rintro rfl
    rw [← Nat.xor_assoc, Nat.xor_self, Nat.zero_xor]
  · intro h
    by_cases e : (r ^^^ d) ^^^ 4294967295 = 0
    · have h2 := congrArg (· ^^^ d) e
      simp only [Nat.zero_xor] at h2
      rw [← h2, show r ^^^ d ^^^ 4294967295 ^^^ d = (r ^^^ 4294967295) ^^^ (d ^^^ d) by ac_rfl, Nat.xor_self, Nat.xor_zero]
    · exfalso
      have hlt : (r ^^^ d) ^^^ 4294967295 < 4294967296 := Nat.xor_lt_two_pow (n := 32) (Nat.xor_lt_two_pow (n := 32) hc hd) (by decide)
      refine stepN_ne 32 hlt e ?_
      rw [stepN_xor, h, Nat.xor_self]

theorem big_le4 {s : Nat} (hs : s < 4294967296) : big [(s : Int) % 256, (s : Int) / 256 % 256, (s : Int) / 65536 % 256, (s : Int) / 16777216] = s := by
  simp only [big]; omega

theorem mul_pow_xor (n a b : Nat) : 2 ^ n * (a ^^^ b) = 2 ^ n * a ^^^ 2 ^ n * b := by
  apply Nat.eq_of_testBit_eq
  intro i
  simp only [Nat.testBit_xor, Nat.testBit_two_pow_mul]
  by_cases h : n ≤ i <;> simp [h]

/-- One bit of one byte turned. -/
theorem big_flip : ∀ (L : List Int) (j k : Nat), IsBytes L → j < L.length → k < 8 → big (L.set j (((L.getD j 0).toNat ^^^ 2 ^ k : Nat) : Int)) = big L ^^^ 2 ^ (8 * j + k)
  | [], j, k, _, h, _ => by simp at h
  | x :: l, 0, k, h, _, hk => by
    have hx := h x (by simp)
    have h2 : (2 : Nat) ^ k < 2 ^ 8 := Nat.pow_lt_pow_right (by decide) hk
    have h3 : x.toNat ^^^ 2 ^ k < 256 := Nat.xor_lt_two_pow (n := 8) (by omega) h2
    rw [List.set_cons_zero, big_cons l (by simp only [List.getD_cons_zero]; omega), big_cons l hx]
    simp only [List.getD_cons_zero, Int.toNat_natCast, Nat.mul_zero, Nat.zero_add]
    ac_rfl
  | x :: l, j + 1, k, h, hj, hk => by
    have hx := h x (by simp)
    have ih := big_flip l j k (fun y hy => h y (by simp [hy])) (by simpa using hj) hk
    rw [List.set_cons_succ, big_cons _ hx, big_cons _ hx, List.getD_cons_succ, ih]
    rw [show 256 * (big l ^^^ 2 ^ (8 * j + k)) = 256 * big l ^^^ 2 ^ (8 * (j + 1) + k) by
      rw [show 256 = 2 ^ 8 by rfl, show 8 * (j + 1) + k = 8 + (8 * j + k) by omega, mul_pow_xor, ← Nat.pow_add]]
    rw [Nat.xor_assoc]

theorem big_inj : ∀ {a b : List Int}, IsBytes a → IsBytes b → a.length = b.length → big a = big b → a = b
  | [], [], _, _, _, _ => rfl
  | x :: a, y :: b, ha, hb, hl, h => by
    have hx := ha x (by simp)
    have hy := hb y (by simp)
    simp only [big] at h
    have e : x = y := by omega
    have e2 : big a = big b := by omega
    rw [e, big_inj (fun z hz => ha z (by simp [hz])) (fun z hz => hb z (by simp [hz])) (by simpa using hl) e2]

theorem big_le4' {s : Nat} (hs : s < 4294967296) : big (le4 s) = s := big_le4 hs

theorem four_of {D : List Int} (h : D.length = 4) : ∃ a b c d, D = [a, b, c, d] := by
  match D, h with
  | [a, b, c, d], _ => exact ⟨a, b, c, d, rfl⟩

theorem val4_big {D : List Int} (hD : IsBytes D) (h : D.length = 4) : val4 D = ((big D : Nat) : Int) ∧ big D < 4294967296 := by
  obtain ⟨a, b, c, d, rfl⟩ := four_of h
  have ha := hD a (by simp)
  have hb := hD b (by simp)
  have hc := hD c (by simp)
  have hd := hD d (by simp)
  simp only [val4, big]
  omega

/-- Open, by the register behind all the bytes. -/
theorem openL_iff {M D : List Int} (hM : IsBytes M) (hD : IsBytes D) (h4 : D.length = 4) :
    openL (M ++ D) = if stepN (8 * (M ++ D).length) (big (M ++ D) ^^^ 4294967295) = stepN 32 4294967295 then (M, 0) else ([], 292) := by
  unfold openL
  have hl : (M ++ D).length - 4 = M.length := by rw [List.length_append]; omega
  obtain ⟨hv, hlt⟩ := val4_big hD h4
  have hi := sum_iff hM hlt
  rw [if_neg (by rw [List.length_append]; omega), hl, List.take_left, List.drop_left, hv, big_append, List.length_append, h4, show 8 * (M.length + 4) = 8 * M.length + 32 by omega]
  by_cases e : sumOf M = big D
  · rw [if_pos (by rw [e]), if_pos (hi.1 e)]
  · rw [if_neg (by omega), if_neg (fun h => e (hi.2 h))]

theorem split4 {T : List Int} (hT : IsBytes T) (h : 4 ≤ T.length) : ∃ M D, T = M ++ D ∧ IsBytes M ∧ IsBytes D ∧ D.length = 4 :=
  ⟨T.take (T.length - 4), T.drop (T.length - 4), (List.take_append_drop _ _).symm, fun x hx => hT x (List.mem_of_mem_take hx), fun x hx => hT x (List.mem_of_mem_drop hx), by rw [List.length_drop]; omega⟩

theorem open_seal {L : List Int} (h : IsBytes L) : openL (sealL L) = (L, 0) := by
  rw [sealL, openL_iff h (le4_bytes (sumOf_lt L)) rfl, if_pos]
  have := (sum_iff h (sumOf_lt L)).1 rfl
  rw [big_append, big_le4' (sumOf_lt L), List.length_append, le4_length, show 8 * (L.length + 4) = 8 * L.length + 32 by omega]
  exact this

/-- What was not sealed. -/
theorem open_other {T : List Int} (hT : IsBytes T) (h : 4 ≤ T.length) :
    openL T = if sealL (T.take (T.length - 4)) = T then (T.take (T.length - 4), 0) else ([], 292) := by
  obtain ⟨M, D, rfl, hM, hD, h4⟩ := split4 hT h
  have hl : (M ++ D).length - 4 = M.length := by rw [List.length_append]; omega
  rw [hl, List.take_left]
  unfold openL
  obtain ⟨hv, hlt⟩ := val4_big hD h4
  rw [if_neg (by omega), hl, List.take_left, List.drop_left, hv]
  by_cases e : sumOf M = big D
  · rw [if_pos (by rw [e]), if_pos]
    unfold sealL
    rw [big_inj (le4_bytes (sumOf_lt M)) hD h4.symm (by rw [big_le4' (sumOf_lt M), e])]
  · rw [if_neg (by omega), if_neg]
    intro q
    unfold sealL at q
    have := List.append_cancel_left q
    exact e (by rw [← this, big_le4' (sumOf_lt M)])

/-- Sealed bytes, of which some of 32 neighbouring bits were turned. -/
theorem open_spoilt {L T : List Int} {F f : Nat} (hL : IsBytes L) (hT : IsBytes T) (hl : T.length = L.length + 4) (hf : f < 8 * T.length) (hF : F < 4294967296)
    (hb : big T = big (sealL L) ^^^ 2 ^ f * F) : openL T = if F = 0 then (L, 0) else ([], 292) := by
  by_cases e : F = 0
  · subst e
    rw [if_pos rfl]
    have : T = sealL L := big_inj hT (sealL_bytes hL) (by rw [hl, sealL, List.length_append, le4_length]) (by rw [hb]; simp)
    rw [this, open_seal hL]
  · rw [if_neg e]
    obtain ⟨M, D, rfl, hM, hD, h4⟩ := split4 hT (by omega)
    rw [openL_iff hM hD h4, if_neg]
    intro q
    have h0 := (sum_iff hL (sumOf_lt L)).1 rfl
    rw [hb] at q
    have hs : big L + 2 ^ (8 * L.length) * sumOf L = big (sealL L) := by rw [sealL, big_append, big_le4' (sumOf_lt L)]
    rw [hs, show 8 * L.length + 32 = 8 * (M ++ D).length by omega] at h0
    rw [show big (sealL L) ^^^ 2 ^ f * F ^^^ 4294967295 = (big (sealL L) ^^^ 4294967295) ^^^ 2 ^ f * F by ac_rfl, stepN_xor, h0] at q
    have q2 := congrArg (fun z => stepN 32 4294967295 ^^^ z) q
    simp only [← Nat.xor_assoc, Nat.xor_self, Nat.zero_xor] at q2
    obtain ⟨m, hm⟩ : ∃ m, 8 * (M ++ D).length = f + m := ⟨8 * (M ++ D).length - f, by omega⟩
    rw [hm, stepN_add, stepN_pow] at q2
    exact stepN_ne m hF e q2
end Go.Proofs.Ytffpccijmgjofaa
